/- A run on an abstract store, proved right for every world, and the functions of the law walked by it: part 2 of 7. -/
import Derived.Test.YtiinngafmlbgpaaGreatSp0
import Derived.Shelf.Strings.OnBuilder
set_option linter.unusedSimpArgs false
set_option linter.unusedVariables false
/- part AxT -/
section
/- Regions that draw their order: when every order comes to what the text's order comes to. -/
namespace Go.Ax
open Go.RowKit

noncomputable def eqS : Value → Value → Bool
  | .int j a, .int k b => decide (j = k) && decide (a = b)
  | .bool a, .bool b => decide (a = b)
  | .string a, .string b => decide (a.data.toList = b.data.toList)
  | .pointer a, .pointer b => decide (a = b)
  | .slice a l c, .slice b m d => decide (a = b) && decide (l = m) && decide (c = d)
  | .map a, .map b => decide (a = b)
  | .nilFunc, .nilFunc => true
  | .nilIface, .nilIface => true
  | _, _ => false
theorem eqS_ok {x y : Value} (h : eqS x y = true) : x = y := by
  unfold eqS at h
  split at h
  · simp only [Bool.and_eq_true, decide_eq_true_eq] at h; rw [h.1, h.2]
  · simp only [decide_eq_true_eq] at h; rw [h]
  · rename_i a b
    simp only [decide_eq_true_eq] at h
    have : a = b := by
      cases a; cases b
      congr 1
      exact Array.ext' h
    rw [this]
  · simp only [decide_eq_true_eq] at h; rw [h]
  · simp only [Bool.and_eq_true, decide_eq_true_eq] at h; rw [h.1.1, h.1.2, h.2]
  · simp only [decide_eq_true_eq] at h; rw [h]
  · rfl
  · rfl
  · cases h
noncomputable def eqLs (e : Value → Value → Bool) : List Value → List Value → Bool
  | [], [] => true
  | x :: xs, y :: ys => e x y && eqLs e xs ys
  | _, _ => false
theorem eqLs_ok {e : Value → Value → Bool} (he : ∀ {x y}, e x y = true → x = y) : ∀ {xs ys : List Value}, eqLs e xs ys = true → xs = ys := by
  intro xs
  induction xs with
  | nil => intro ys h; cases ys <;> first | rfl | cases h
  | cons x xs ih =>
    intro ys h
    cases ys with
    | nil => cases h
    | cons y ys => simp only [eqLs, Bool.and_eq_true] at h; rw [he h.1, ih h.2]
noncomputable def eqL (e : Value → Value → Bool) : Value → Value → Bool
  | .agg a, .agg b => eqLs e a.toList b.toList
  | .tuple a, .tuple b => eqLs e a.toList b.toList
  | .func f a b, .func g c d => decide (f = g) && eqLs e a.toList c.toList && eqLs e b.toList d.toList
  | .iface t a, .iface u b => decide (t = u) && e a b
  | x, y => eqS x y
theorem eqL_ok {e : Value → Value → Bool} (he : ∀ {x y}, e x y = true → x = y) {x y : Value} (h : eqL e x y = true) : x = y := by
  unfold eqL at h
  split at h
  · rw [Array.ext' (eqLs_ok he h)]
  · rw [Array.ext' (eqLs_ok he h)]
  · simp only [Bool.and_eq_true, decide_eq_true_eq] at h
    rw [h.1.1, Array.ext' (eqLs_ok he h.1.2), Array.ext' (eqLs_ok he h.2)]
  · simp only [Bool.and_eq_true, decide_eq_true_eq] at h
    rw [h.1, he h.2]
  · exact eqS_ok h
noncomputable def eqV : Value → Value → Bool := eqL (eqL eqS)
theorem eqV_ok {x y : Value} (h : eqV x y = true) : x = y := eqL_ok (eqL_ok eqS_ok) h

/-! who must come before whom -/
noncomputable def befOne (acc : List Nat) (o : Oper) : Nat := o.after.toList.foldl (fun s e => if Region.binds .any e then s ||| 2 ^ e.on ||| acc.getD e.on 0 else s) 0
noncomputable def befs : List Oper → List Nat → List Nat
  | [], acc => acc
  | o :: l, acc => befs l (acc ++ [befOne acc o])
noncomputable def Closed (ops : Array Oper) (L : List Nat) : Prop := ∀ i ∈ L, ∀ o, ops[i]? = some o → ∀ e ∈ o.after, Region.binds .any e = true → e.on ∈ L

theorem bits_fold {acc : List Nat} {L : List Nat} (hacc : ∀ i j, i ∈ L → (acc.getD i 0).testBit j = true → j ∈ L) : ∀ (es : List Edge) (s : Nat), (∀ e ∈ es, Region.binds .any e = true → e.on ∈ L) → (∀ j, s.testBit j = true → j ∈ L) →
    ∀ j, (es.foldl (fun s e => if Region.binds .any e then s ||| 2 ^ e.on ||| acc.getD e.on 0 else s) s).testBit j = true → j ∈ L := by
  intro es
  induction es with
  | nil => intro s _ hs j hj; exact hs j hj
  | cons e es ih =>
    intro s he hs j hj
    rw [List.foldl_cons] at hj
    refine ih _ (fun e' he' => he e' (by simp [he'])) ?_ j hj
    intro q hq
    by_cases hb : Region.binds .any e = true
    · rw [if_pos hb] at hq
      have hon := he e (by simp) hb
      simp only [Nat.testBit_or, Bool.or_eq_true] at hq
      rcases hq with (hq | hq) | hq
      · exact hs q hq
      · have := Nat.testBit_two_pow (n := e.on) (m := q)
        rw [this] at hq
        simp only [decide_eq_true_eq] at hq
        rw [← hq]; exact hon
      · exact hacc _ _ hon hq
    · rw [if_neg hb] at hq
      exact hs q hq
theorem befs_ok {ops : Array Oper} {L : List Nat} (hL : Closed ops L) : ∀ (l : List Oper) (acc : List Nat), (∀ k o, l[k]? = some o → ops[acc.length + k]? = some o) →
    (∀ i j, i ∈ L → (acc.getD i 0).testBit j = true → j ∈ L) → ∀ i j, i ∈ L → ((befs l acc).getD i 0).testBit j = true → j ∈ L := by
  intro l
  induction l with
  | nil => intro acc _ h i j hi hj; exact h i j hi hj
  | cons o l ih =>
    intro acc hops h i j hi hj
    refine ih (acc ++ [befOne acc o]) ?_ ?_ i j hi hj
    · intro k o' hk
      have := hops (k + 1) o' (by simpa using hk)
      simp only [List.length_append, List.length_singleton]
      rw [← this]
      congr 1
      omega
    · intro i' j' hi' hj'
      rw [List.getD_eq_getElem?_getD] at hj'
      by_cases hlt : i' < acc.length
      · rw [List.getElem?_append_left hlt] at hj'
        exact h i' j' hi' (by rw [List.getD_eq_getElem?_getD]; exact hj')
      · by_cases he : i' = acc.length
        · subst he
          rw [List.getElem?_append_right (Nat.le_refl _)] at hj'
          simp only [Nat.sub_self, List.getElem?_cons_zero, Option.getD_some] at hj'
          refine bits_fold h o.after.toList 0 ?_ (by simp) j' hj'
          intro e hem hb
          exact hL _ hi' o (by have := hops 0 o (by simp); simpa using this) e (by simpa using hem) hb
        · rw [List.getElem?_eq_none (by simp; omega)] at hj'
          simp at hj'

structure Ent where
  ts : List Value
  S : St
  v : Value
  s : Option St

/-- the variables that a region makes get their numbers ahead of it -/
noncomputable def allocOf : Op → Option TypeId
  | .alloc t => some t
  | _ => none
theorem allocOf_eq {op : Op} {t : TypeId} (h : allocOf op = some t) : op = .alloc t := by
  cases op <;> simp [allocOf] at h
  subst h; rfl
noncomputable def pre (T : Tab) : List Oper → St → Option (St × List (Option Nat))
  | [], S => some (S, [])
  | o :: l, S =>
    match allocOf o.op with
    | some t =>
      (match T.info t with
      | some i => if plain i.zero then
          (match pre T l (boxA S t i.zero).2 with
          | some (S1, hs) => some (S1, some S.n :: hs)
          | none => none)
        else none
      | none => none)
    | none =>
      match pre T l S with
      | some (S1, hs) => some (S1, none :: hs)
      | none => none

theorem SR.reserve {b : Base} {E : Env} {S : St} {w : World} (h : SR b E S w) (o : AObj) : SR ⟨b.w, b.own, fun j => b.hole j ∨ j = S.n⟩ E (S.push o) w := by
  have hold : ∀ i x, E i = some x → i < S.n := by
    intro i x hx
    rcases Nat.lt_or_ge i S.n with hlt | hge
    · exact hlt
    · rw [h.dom i hge] at hx; cases hx
  refine ⟨St.ok_push h.len o, ?_, ?_, ?_, ?_, h.rng, ⟨h.below.os, h.below.tape, h.below.output, h.below.size, h.below.block⟩, ?_, h.mono⟩
  · intro i o' hi hn
    have hne : i ≠ S.n := fun e => hn (.inr e)
    have hi' : i < S.n := by have := St.get_lt hi; unfold St.push at this; simp only at this; omega
    rw [St.get_push_old o hi'] at hi
    exact h.obj i o' hi fun hh => hn (.inl hh)
  · intro i hi
    unfold St.push
    simp only
    rcases hi with hi | rfl
    · obtain ⟨h1, h2⟩ := h.hole i hi
      exact ⟨by omega, h2⟩
    · exact ⟨by omega, h.dom _ (Nat.le_refl _)⟩
  · intro i hi
    unfold St.push at hi
    simp only at hi
    exact h.dom i (by omega)
  · intro i j oi oj b1 κ1 κ2 hi hai hj haj g1 g2
    rw [St.get_push_old o (hold _ _ g1)] at hi
    rw [St.get_push_old o (hold _ _ g2)] at hj
    exact h.inj i j oi oj b1 κ1 κ2 hi hai hj haj g1 g2
  · intro i oi b1 κ1 hi hai g1
    rw [St.get_push_old o (hold _ _ g1)] at hi
    exact h.new i oi b1 κ1 hi hai g1
theorem SR.holes {w0 : World} {o p q : Nat → Prop} {E : Env} {S : St} {w : World} (h : SR ⟨w0, o, p⟩ E S w) (hpq : ∀ j, p j ↔ q j) : SR ⟨w0, o, q⟩ E S w := by
  have : p = q := funext fun j => propext (hpq j)
  subst this
  exact h
/-- a number that is kept gets its block -/
theorem SR.fill {b : Base} {E : Env} {S : St} {w : World} (h : SR b E S w) {j : Nat} {o : AObj} {κ : Nat} {ob : Obj} (hj : b.hole j) (ho : S.get j = some o)
    (hnew : ∀ w', w'.heap[w.heap.size]? = some ob → OR (E.upd j (w.heap.size, κ)) j w' o) :
    E.le (E.upd j (w.heap.size, κ)) ∧ SR ⟨b.w, b.own, fun q => b.hole q ∧ q ≠ j⟩ (E.upd j (w.heap.size, κ)) S (w.alloc ob) := by
  obtain ⟨hlt, hnone⟩ := h.hole j hj
  have hE : E.le (E.upd j (w.heap.size, κ)) := Env.upd_le hnone
  have hz : (w.alloc ob).heap.size = w.heap.size + 1 := World.size_alloc ..
  have hold : ∀ i b κ', i ≠ j → (E.upd j (w.heap.size, κ)) i = some (b, κ') → E i = some (b, κ') := by
    intro i b κ' hi he
    unfold Env.upd at he
    rwa [if_neg hi] at he
  have hbb := h.below.alloc ob
  refine ⟨hE, h.len, ?_, ?_, ?_, ?_, ?_, ⟨hbb.os, hbb.tape, hbb.output, hbb.size, hbb.block⟩, ?_, h.mono⟩
  · intro i o' hi hn
    by_cases e : i = j
    · subst e
      rw [ho] at hi
      cases hi
      exact hnew _ (alloc_new w ob)
    · exact (h.obj i o' hi fun hh => hn ⟨hh, e⟩).keep hE fun b κ' hb => alloc_old w ob (h.rng _ _ _ hb).2
  · rintro i ⟨hi, hne⟩
    obtain ⟨h1, h2⟩ := h.hole i hi
    refine ⟨h1, ?_⟩
    unfold Env.upd
    rw [if_neg hne]
    exact h2
  · intro i hi
    unfold Env.upd
    rw [if_neg (by omega)]
    exact h.dom i hi
  · intro i k oi ok b1 κ1 κ2 hi hai hk hak g1 g2
    by_cases ei : i = j
    · by_cases ek : k = j
      · rw [ei, ek]
      · subst ei
        rw [Env.upd_same] at g1
        cases g1
        have := (h.rng _ _ _ (hold _ _ _ ek g2)).2
        omega
    · by_cases ek : k = j
      · subst ek
        rw [Env.upd_same] at g2
        cases g2
        have := (h.rng _ _ _ (hold _ _ _ ei g1)).2
        omega
      · exact h.inj i k oi ok b1 κ1 κ2 hi hai hk hak (hold _ _ _ ei g1) (hold _ _ _ ek g2)
  · intro i b1 κ' hb
    by_cases e : i = j
    · subst e
      rw [Env.upd_same] at hb
      cases hb
      exact ⟨.inr h.below.size, by omega⟩
    · have := h.rng _ _ _ (hold _ _ _ e hb)
      exact ⟨this.1, by omega⟩
  · intro i oi b κ' hi hai hb
    by_cases e : i = j
    · subst e
      rw [Env.upd_same] at hb
      cases hb
      exact h.below.size
    · exact h.new i oi b κ' hi hai (hold _ _ _ e hb)

theorem pre_spec {T : Tab} : ∀ {l : List Oper} {S S1 : St} {hs : List (Option Nat)}, pre T l S = some (S1, hs) → S.n ≤ S1.n ∧ Keeps S S1 ∧
    (∀ {b : Base} {E : Env} {w : World}, SR b E S w → SR ⟨b.w, b.own, fun j => b.hole j ∨ (S.n ≤ j ∧ j < S1.n)⟩ E S1 w) ∧
    (∀ i j, hs.getD i none = some j → S.n ≤ j ∧ j < S1.n ∧ ∃ o t, l[i]? = some o ∧ allocOf o.op = some t) ∧
    (∀ j, S.n ≤ j → j < S1.n → ∃ i, hs.getD i none = some j) ∧ (∀ i i' j, hs.getD i none = some j → hs.getD i' none = some j → i = i') := by
  intro l
  induction l with
  | nil =>
    intro S S1 hs h
    simp only [pre, Option.some.injEq, Prod.mk.injEq] at h
    obtain ⟨rfl, rfl⟩ := h
    exact ⟨Nat.le_refl _, .refl _, fun h => h.holes fun j => ⟨.inl, fun h => h.elim id fun h => by omega⟩, fun i j h => by simp at h, fun j h1 h2 => by omega, fun i i' j h => by simp at h⟩
  | cons o l ih =>
    intro S S1 hs h
    simp only [pre] at h
    split at h
    case h_1 t ht =>
      split at h
      case h_2 => cases h
      case h_1 ti hti =>
        split at h
        case isFalse => cases h
        case isTrue hp =>
          split at h
          case h_2 => cases h
          case h_1 S2 hs2 hpre =>
            simp only [Option.some.injEq, Prod.mk.injEq] at h
            obtain ⟨rfl, rfl⟩ := h
            obtain ⟨i1, i2, i3, i4, i5, i6⟩ := ih hpre
            have hn : (boxA S t ti.zero).2.n = S.n + 1 := rfl
            rw [hn] at i1 i3 i4 i5
            refine ⟨by omega, (Keeps.push _ _).trans i2, ?_, ?_, ?_, ?_⟩
            · intro b E w hS
              refine (i3 (hS.reserve _)).holes fun j => ?_
              simp only
              constructor
              · rintro ((h | h) | h)
                · exact .inl h
                · exact .inr (by omega)
                · exact .inr (by omega)
              · rintro (h | h)
                · exact .inl (.inl h)
                · rcases Nat.lt_or_ge S.n j with h' | h'
                  · exact .inr (by omega)
                  · exact .inl (.inr (by omega))
            · intro i j hij
              cases i with
              | zero =>
                simp only [List.getD_cons_zero, Option.some.injEq] at hij
                exact ⟨by omega, by omega, o, t, rfl, ht⟩
              | succ i =>
                rw [List.getD_cons_succ] at hij
                obtain ⟨h1, h2, o', t', h3, h4⟩ := i4 i j hij
                exact ⟨by omega, h2, o', t', by simpa using h3, h4⟩
            · intro j h1 h2
              rcases Nat.lt_or_ge S.n j with h' | h'
              · obtain ⟨i, hi⟩ := i5 j (by omega) h2
                exact ⟨i + 1, by rw [List.getD_cons_succ]; exact hi⟩
              · exact ⟨0, by simp only [List.getD_cons_zero]; congr 1; omega⟩
            · intro i i' j h1 h2
              cases i with
              | zero =>
                cases i' with
                | zero => rfl
                | succ i' =>
                  simp only [List.getD_cons_zero, Option.some.injEq] at h1
                  rw [List.getD_cons_succ] at h2
                  have := (i4 i' j h2).1
                  omega
              | succ i =>
                rw [List.getD_cons_succ] at h1
                cases i' with
                | zero =>
                  simp only [List.getD_cons_zero, Option.some.injEq] at h2
                  have := (i4 i j h1).1
                  omega
                | succ i' =>
                  rw [List.getD_cons_succ] at h2
                  rw [i6 i i' j h1 h2]
    case h_2 ht =>
      split at h
      case h_2 => cases h
      case h_1 S2 hs2 hpre =>
        simp only [Option.some.injEq, Prod.mk.injEq] at h
        obtain ⟨rfl, rfl⟩ := h
        obtain ⟨i1, i2, i3, i4, i5, i6⟩ := ih hpre
        refine ⟨i1, i2, i3, ?_, ?_, ?_⟩
        · intro i j hij
          cases i with
          | zero => simp at hij
          | succ i =>
            rw [List.getD_cons_succ] at hij
            obtain ⟨h1, h2, o', t', h3, h4⟩ := i4 i j hij
            exact ⟨h1, h2, o', t', by simpa using h3, h4⟩
        · intro j h1 h2
          obtain ⟨i, hi⟩ := i5 j h1 h2
          exact ⟨i + 1, by rw [List.getD_cons_succ]; exact hi⟩
        · intro i i' j h1 h2
          cases i with
          | zero => simp at h1
          | succ i =>
            cases i' with
            | zero => simp at h2
            | succ i' =>
              rw [List.getD_cons_succ] at h1 h2
              rw [i6 i i' j h1 h2]

/-- one operation, where variables have their numbers -/
noncomputable def stepD (G : Fns) (P : Program) (T : Tab) (hs : List (Option Nat)) (i : Nat) (ts : List Value) (S : St) (o : Oper) : Option (List (Value × Option St)) :=
  match hs.getD i none with
  | some j => some [(.pointer (some ⟨j, 0, none⟩), none)]
  | none => stepOp G P T ts S o
/-- is object j as it was made -/
noncomputable def fresh (T : Tab) (S : St) (j : Nat) (t : TypeId) : Bool :=
  match S.get j, T.info t with
  | some (.cells cs t' 0), some i => plain i.zero && decide (t' = t) && eqLs eqS cs i.zero.cells.toList
  | _, _ => false

/-- the region in the text's order, each operation with one outcome -/
noncomputable def canon (G : Fns) (P : Program) (T : Tab) (hs : List (Option Nat)) (ops : Array Oper) : Nat → List Oper → List Value → St → Option (List Ent × List Value × St)
  | _, [], ts, S => some ([], ts, S)
  | i, o :: l, ts, S =>
    if Region.wanted o (yieldedA ops ts) then
      match stepD G P T hs i ts S o with
      | some [(v, s)] =>
        (match canon G P T hs ops (i + 1) l (putA ts o.dst v) (s.getD S) with
        | some (R, tf, Sf) => some ({ ts := ts, S := S, v := v, s := s } :: R, tf, Sf)
        | none => none)
      | _ => none
    else
      match canon G P T hs ops (i + 1) l (putA ts o.dst undef) S with
      | some (R, tf, Sf) => some ({ ts := ts, S := S, v := undef, s := none } :: R, tf, Sf)
      | none => none
noncomputable def tsAt (R : List Ent) (tf : List Value) (k : Nat) : List Value := match R[k]? with | some e => e.ts | none => tf
noncomputable def SAt (R : List Ent) (Sf : St) (k : Nat) : St := match R[k]? with | some e => e.S | none => Sf

theorem canon_spec {G : Fns} {P : Program} {T : Tab} {hs : List (Option Nat)} {ops : Array Oper} : ∀ {l : List Oper} {i : Nat} {ts : List Value} {S : St} {R : List Ent} {tf : List Value} {Sf : St}, canon G P T hs ops i l ts S = some (R, tf, Sf) →
    R.length = l.length ∧ tsAt R tf 0 = ts ∧ SAt R Sf 0 = S ∧ ∀ k o, l[k]? = some o → ∃ e, R[k]? = some e ∧
      (Region.wanted o (yieldedA ops e.ts) = true → stepD G P T hs (i + k) e.ts e.S o = some [(e.v, e.s)]) ∧ (Region.wanted o (yieldedA ops e.ts) = false → e.v = undef ∧ e.s = none) ∧
      tsAt R tf (k + 1) = putA e.ts o.dst e.v ∧ SAt R Sf (k + 1) = e.s.getD e.S := by
  intro l
  induction l with
  | nil =>
    intro i ts S R tf Sf h
    simp only [canon, Option.some.injEq, Prod.mk.injEq] at h
    obtain ⟨rfl, rfl, rfl⟩ := h
    exact ⟨rfl, rfl, rfl, fun k o hk => by simp at hk⟩
  | cons o l ih =>
    intro i ts S R tf Sf h
    have key : ∀ {R' : List Ent} {v : Value} {s : Option St}, canon G P T hs ops (i + 1) l (putA ts o.dst v) (s.getD S) = some (R', tf, Sf) → R = { ts := ts, S := S, v := v, s := s } :: R' →
        (Region.wanted o (yieldedA ops ts) = true → stepD G P T hs i ts S o = some [(v, s)]) → (Region.wanted o (yieldedA ops ts) = false → v = undef ∧ s = none) →
        R.length = (o :: l).length ∧ tsAt R tf 0 = ts ∧ SAt R Sf 0 = S ∧ ∀ k o', (o :: l)[k]? = some o' → ∃ e, R[k]? = some e ∧
      (Region.wanted o' (yieldedA ops e.ts) = true → stepD G P T hs (i + k) e.ts e.S o' = some [(e.v, e.s)]) ∧ (Region.wanted o' (yieldedA ops e.ts) = false → e.v = undef ∧ e.s = none) ∧
      tsAt R tf (k + 1) = putA e.ts o'.dst e.v ∧ SAt R Sf (k + 1) = e.s.getD e.S := by
      intro R' v s hc hR hw hnw
      obtain ⟨i1, i2, i3, i4⟩ := ih hc
      subst hR
      refine ⟨by simp [i1], rfl, rfl, ?_⟩
      intro k o' hk
      cases k with
      | zero =>
        simp only [List.getElem?_cons_zero, Option.some.injEq] at hk
        subst hk
        refine ⟨_, rfl, hw, hnw, ?_, ?_⟩
        · rw [← i2]; rfl
        · rw [← i3]; rfl
      | succ k =>
        simp only [List.getElem?_cons_succ] at hk
        obtain ⟨e, j1, j2, j3, j4, j5⟩ := i4 k o' hk
        exact ⟨e, by simpa using j1, (by rw [show i + (k + 1) = i + 1 + k by omega]; exact j2), j3, j4, j5⟩
    simp only [canon] at h
    split at h
    case isTrue hw =>
      split at h
      case h_2 => cases h
      case h_1 v s hvs =>
        split at h
        case h_2 => cases h
        case h_1 R' tf' Sf' hc =>
          simp only [Option.some.injEq, Prod.mk.injEq] at h
          obtain ⟨h1, rfl, rfl⟩ := h
          exact key hc h1.symm (fun _ => hvs) (fun h => by rw [hw] at h; cases h)
    case isFalse hw =>
      split at h
      case h_2 => cases h
      case h_1 R' tf' Sf' hc =>
        simp only [Option.some.injEq, Prod.mk.injEq] at h
        obtain ⟨h1, rfl, rfl⟩ := h
        exact key (s := none) hc h1.symm (fun h => absurd h hw) (fun _ => ⟨rfl, rfl⟩)

noncomputable def isCallV : Op → Bool
  | .call { callee := .builtin _, .. } => false
  | .call _ => true
  | _ => false
/-- may it turn the store -/
noncomputable def xop (o : Oper) : Bool := isCallV o.op || (eff o.op && (allocOf o.op).isNone)
noncomputable def isX (ops : Array Oper) (x : Nat) : Bool := match ops[x]? with | some o => xop o | none => false
/-- does it look at no store -/
noncomputable def alone : Op → Bool
  | .move _ => true
  | .assign _ => true
  | .pick _ _ _ => true
  | .build _ _ => true
  | .nilCheck _ => true
  | .binOp _ _ _ _ _ => true
  | .unOp _ _ _ => true
  | .convert _ _ _ => true
  | .makeInterface _ _ => true
  | .makeFunc _ _ _ => true
  | .fieldAddr _ _ _ => true
  | .field _ _ _ => true
  | .extract _ _ => true
  | _ => false
theorem stepOp_lone {G : Fns} {P : Program} {T : Tab} {ts : List Value} {o : Oper} (h : alone o.op = true) (S S' : St) : stepOp G P T ts S o = stepOp G P T ts S' o := by
  unfold stepOp aop
  generalize ho : o.op = op at h
  cases op <;> first | (simp [alone] at h; done) | skip
  all_goals simp only [eff, onev]
  case move x => cases evalA ts x <;> rfl
  case assign x => cases evalA ts x <;> rfl
  case pick c x y =>
    rcases evalA ts c with _ | v
    · rfl
    · cases v <;> first | rfl | skip
      rename_i b
      cases b
      · cases evalA ts y <;> rfl
      · cases evalA ts x <;> rfl
  case build t ps =>
    rcases partsA ts ps.toList with _ | v
    · rfl
    · simp only; cases buildA T t v <;> rfl
  case nilCheck x =>
    rcases evalA ts x with _ | v
    · rfl
    · simp only; cases nilCheckA v <;> rfl
  case binOp op t x y q => cases binA P T ts o op t x y <;> rfl
  case unOp => cases pureOpA P ts o <;> rfl
  case convert s d x =>
    rcases evalA ts x with _ | v
    · rfl
    · simp only
      cases convA T s d v
      · simp only; cases pureOpA P ts o <;> rfl
      · rfl
  case makeInterface t x =>
    rcases evalA ts x with _ | v
    · rfl
    · rcases T.und t with _ | d
      · rfl
      · simp only; cases isIface d <;> rfl
  case makeFunc fn xs ys =>
    rcases evalsA ts xs.toList with _ | v
    · rfl
    · rcases evalsA ts ys.toList with _ | u
      · rfl
      · simp only; cases fnOk fn <;> rfl
  case fieldAddr t x f =>
    rcases evalA ts x with _ | v
    · rfl
    · simp only; cases fieldAddrA T t f v <;> rfl
  case field t x f =>
    rcases evalA ts x with _ | v
    · rfl
    · simp only; cases fieldA T t f v <;> rfl
  case extract x i =>
    rcases evalA ts x with _ | v
    · rfl
    · simp only; cases extractA i v <;> rfl

noncomputable def dstAt (ops : Array Oper) (d : Nat) : Option Tmp := (ops[d]?).bind (·.dst)
noncomputable def bit (B : List Nat) (i j : Nat) : Bool := (B.getD i 0).testBit j
noncomputable def xsOf (ops : Array Oper) : List Nat := (List.range ops.size).filter (isX ops)
/-- can the first k places of the text have been, and no effect after them, when i comes -/
noncomputable def barred (B xs : List Nat) (i k : Nat) : Bool := xs.any fun x => (bit B i x && decide (k ≤ x)) || (bit B x i && decide (x < k))
noncomputable def same (xs : List Nat) (i k : Nat) : Bool := xs.all fun x => decide (x < k) == decide (x < i)
noncomputable def ksAll (B xs : List Nat) (i : Nat) : List Nat := (0 :: xs.map (· + 1)).filter fun k => !barred B xs i k
noncomputable def ksOf (B xs : List Nat) (i : Nat) : List Nat := (0 :: xs.map (· + 1)).filter fun k => !barred B xs i k && !same xs i k
/-- what the text alone shows -/
noncomputable def statOk (ops : Array Oper) : Bool :=
  (List.range ops.size).all fun i =>
    match ops[i]? with
    | some o =>
      (o.after.toList.all fun ed => !Region.binds .any ed || decide (ed.on < i)) &&
      (match o.dst with
        | some t => (List.range ops.size).all fun d => decide (d = i) || decide (dstAt ops d ≠ some t)
        | none => true) &&
      ((o.looksAt ops).all fun t => (List.range ops.size).all fun d => decide (d = i) || decide (dstAt ops d ≠ some t) || (if d < i then bit (befs ops.toList []) i d else bit (befs ops.toList []) d i)) &&
      ((allocOf o.op).isNone || o.guard.isNone) &&
      (!xop o || (xsOf ops).all fun x => decide (x = i) || (if x < i then bit (befs ops.toList []) i x else bit (befs ops.toList []) x i))
    | none => false
noncomputable def again (ops : Array Oper) : List (Nat × List Nat) :=
  (List.range ops.size).filterMap fun i => match ops[i]? with
    | some o => if xop o || alone o.op || (allocOf o.op).isSome then none else some (i, ksOf (befs ops.toList []) (xsOf ops) i)
    | none => none
noncomputable def news (ops : Array Oper) : List (Nat × TypeId × List Nat) :=
  (List.range ops.size).filterMap fun i => match ops[i]? with
    | some o => match allocOf o.op with
      | some t => some (i, t, ksAll (befs ops.toList []) (xsOf ops) i)
      | none => none
    | none => none
noncomputable def topOf (ops : Array Oper) : Nat := ops.toList.foldl (fun m o => match o.dst with | some t => max m (t + 1) | none => m) 0
noncomputable def entsOk (ops : Array Oper) : Nat → List Ent → Bool
  | _, [] => true
  | i, e :: R => (e.s.isNone || isX ops i) && entsOk ops (i + 1) R
/-- what the run along the text must show besides -/
noncomputable def drawChk (G : Fns) (P : Program) (T : Tab) (hs : List (Option Nat)) (ops : Array Oper) (ts : List Value) (R : List Ent) (Sf : St) : Bool :=
  statOk ops && decide (topOf ops ≤ ts.length) && entsOk ops 0 R &&
  ((again ops).all fun q => match ops[q.1]?, R[q.1]? with
    | some o, some e => !Region.wanted o (yieldedA ops e.ts) || q.2.all fun k => match stepD G P T hs q.1 e.ts (SAt R Sf k) o with
      | some [(v, none)] => eqV v e.v
      | _ => false
    | _, _ => false) &&
  ((news ops).all fun q => match R[q.1]?, hs.getD q.1 none with
    | some e, some j => fresh T e.S j q.2.1 && q.2.2.all fun k => fresh T (SAt R Sf k) j q.2.1
    | _, _ => false)
noncomputable def drawA (G : Fns) (P : Program) (T : Tab) (ops : Array Oper) (ts : List Value) (S : St) : Option (List (List Value × St)) :=
  match pre T ops.toList S with
  | some (S1, hs) =>
    (match canon G P T hs ops 0 ops.toList ts S1 with
    | some (R, tf, Sf) =>
      if drawChk G P T hs ops ts R Sf then some [(tf, Sf)] else none
    | none => none)
  | none => none
end Go.Ax
end
/- part AxU -/
section
/- Regions that draw their order: the proof. -/
namespace Go.Ax
open Go.RowKit

theorem full_of_length : ∀ (n : Nat) (L : List Nat), L.Nodup → (∀ i ∈ L, i < n) → L.length = n → ∀ i, i < n → i ∈ L := by
  intro n
  induction n with
  | zero => intro L _ _ _ i hi; omega
  | succ n ih =>
    intro L hnd hlt hlen i hi
    by_cases hn : n ∈ L
    · have h1 : (L.erase n).Nodup := hnd.erase n
      have h2 : ∀ j ∈ L.erase n, j < n := by
        intro j hj
        have := hlt j (List.mem_of_mem_erase hj)
        have hne : j ≠ n := fun e => by subst e; exact (List.Nodup.not_mem_erase hnd) hj
        omega
      have h3 : (L.erase n).length = n := by rw [List.length_erase_of_mem hn, hlen]; rfl
      by_cases he : i = n
      · subst he; exact hn
      · exact List.mem_of_mem_erase (ih _ h1 h2 h3 i (by omega))
    · exfalso
      have h2 : ∀ j ∈ L, j < n := by
        intro j hj
        have := hlt j hj
        have hne : j ≠ n := fun e => by subst e; exact hn hj
        omega
      have : ∀ (m : Nat) (L : List Nat), L.Nodup → (∀ i ∈ L, i < m) → L.length ≤ m := by
        intro m
        induction m with
        | zero => intro L _ h; cases L with
          | nil => simp
          | cons a l => exact absurd (h a (by simp)) (by omega)
        | succ m ihm =>
          intro L hnd h
          by_cases hm : m ∈ L
          · have := ihm (L.erase m) (hnd.erase m) (fun j hj => by
              have := h j (List.mem_of_mem_erase hj)
              have hne : j ≠ m := fun e => by subst e; exact (List.Nodup.not_mem_erase hnd) hj
              omega)
            rw [List.length_erase_of_mem hm] at this
            omega
          · have := ihm L hnd (fun j hj => by
              have := h j hj
              have hne : j ≠ m := fun e => by subst e; exact hm hj
              omega)
            omega
      have := this n L hnd h2
      omega

section
variable {P : Program} {T : Tab} {G : Fns} {hs : List (Option Nat)} {ops : Array Oper} {ts : List Value} {S : St} {R : List Ent} {tf : List Value} {Sf : St}

/-- what drawChk says of one operation -/
structure Chk (G : Fns) (P : Program) (T : Tab) (hs : List (Option Nat)) (ops : Array Oper) (ts : List Value) (R : List Ent) (Sf : St) (i : Nat) (o : Oper) (e : Ent) : Prop where
  back : ∀ ed ∈ o.after, Region.binds .any ed = true → ed.on < i
  dlt : ∀ t, o.dst = some t → t < ts.length
  done : ∀ t, o.dst = some t → ∀ d, d < ops.size → dstAt ops d = some t → d = i
  look : ∀ t ∈ o.looksAt ops, ∀ d, d < ops.size → dstAt ops d = some t → d ≠ i → (d < i → bit (befs ops.toList []) i d = true) ∧ (i < d → bit (befs ops.toList []) d i = true)
  x : isX ops i = true → ∀ x, x < ops.size → isX ops x = true → x ≠ i → (x < i → bit (befs ops.toList []) i x = true) ∧ (i < x → bit (befs ops.toList []) x i = true)
  nox : isX ops i = false → e.s = none
  nx : isX ops i = false → Region.wanted o (yieldedA ops e.ts) = true → ∀ k, (k = 0 ∨ ∃ x, x < ops.size ∧ isX ops x = true ∧ k = x + 1) →
    (∀ x, x < ops.size → isX ops x = true → (bit (befs ops.toList []) i x = true → x < k) ∧ (bit (befs ops.toList []) x i = true → k ≤ x)) → ¬ (∀ x, x < ops.size → isX ops x = true → (x < k ↔ x < i)) →
    stepD G P T hs i e.ts (SAt R Sf k) o = some [(e.v, none)]
  al : ∀ j, hs.getD i none = some j → o.guard = none ∧ fresh T e.S j ((allocOf o.op).getD 0) = true ∧ ∀ k, (k = 0 ∨ ∃ x, x < ops.size ∧ isX ops x = true ∧ k = x + 1) →
    (∀ x, x < ops.size → isX ops x = true → (bit (befs ops.toList []) i x = true → x < k) ∧ (bit (befs ops.toList []) x i = true → k ≤ x)) → fresh T (SAt R Sf k) j ((allocOf o.op).getD 0) = true

theorem foldl_top : ∀ (l : List Oper) (m : Nat), m ≤ l.foldl (fun m o => match o.dst with | some t => max m (t + 1) | none => m) m := by
  intro l
  induction l with
  | nil => intro m; exact Nat.le_refl _
  | cons o l ih =>
    intro m
    rw [List.foldl_cons]
    refine Nat.le_trans ?_ (ih _)
    cases o.dst with
    | none => exact Nat.le_refl _
    | some t => exact Nat.le_max_left _ _
theorem top_mem : ∀ (l : List Oper) (m : Nat) {o : Oper} {t : Tmp}, o ∈ l → o.dst = some t → t < l.foldl (fun m o => match o.dst with | some t => max m (t + 1) | none => m) m := by
  intro l
  induction l with
  | nil => intro m o t h; simp at h
  | cons q l ih =>
    intro m o t h ht
    rw [List.foldl_cons]
    rcases List.mem_cons.1 h with rfl | h
    · rw [ht]
      refine Nat.lt_of_lt_of_le ?_ (foldl_top l _)
      exact Nat.lt_of_lt_of_le (Nat.lt_succ_self t) (Nat.le_max_right _ _)
    · exact ih _ h ht
theorem entsOk_ok {ops : Array Oper} : ∀ {R : List Ent} {i : Nat}, entsOk ops i R = true → ∀ {k : Nat} {e : Ent}, R[k]? = some e → isX ops (i + k) = false → e.s = none := by
  intro R
  induction R with
  | nil => intro i _ k e h; simp at h
  | cons q R ih =>
    intro i h k e hk hx
    simp only [entsOk, Bool.and_eq_true, Bool.or_eq_true] at h
    cases k with
    | zero =>
      simp only [List.getElem?_cons_zero, Option.some.injEq] at hk
      subst hk
      rw [Nat.add_zero] at hx
      rcases h.1 with h | h
      · exact Option.isNone_iff_eq_none.1 h
      · rw [hx] at h; cases h
    | succ k =>
      rw [List.getElem?_cons_succ] at hk
      exact ih h.2 hk (by rw [← hx]; congr 1; omega)

/-- drawChk, as a proposition -/
structure DrawP (G : Fns) (P : Program) (T : Tab) (hs : List (Option Nat)) (ops : Array Oper) (ts : List Value) (R : List Ent) (Sf : St) : Prop where
  d1 : statOk ops = true
  d2 : topOf ops ≤ ts.length
  d3 : entsOk ops 0 R = true
  d4 : ∀ i ks, (i, ks) ∈ again ops → ∀ o e, ops[i]? = some o → R[i]? = some e → Region.wanted o (yieldedA ops e.ts) = true → ∀ k ∈ ks, stepD G P T hs i e.ts (SAt R Sf k) o = some [(e.v, none)]
  d5 : ((news ops).all fun q => match R[q.1]?, hs.getD q.1 none with
    | some e, some j => fresh T e.S j q.2.1 && q.2.2.all fun k => fresh T (SAt R Sf k) j q.2.1
    | _, _ => false) = true
theorem drawP_of (h : drawChk G P T hs ops ts R Sf = true) : DrawP G P T hs ops ts R Sf := by
  unfold drawChk at h
  simp only [Bool.and_eq_true] at h
  obtain ⟨⟨⟨⟨d1, d2⟩, d3⟩, d4⟩, d5⟩ := h
  refine ⟨d1, of_decide_eq_true d2, d3, ?_, d5⟩
  intro i ks hin o e ho he hw k hk
  have := List.all_eq_true.1 d4 _ hin
  simp only [ho, he, hw, Bool.not_true, Bool.false_or] at this
  have := List.all_eq_true.1 this k hk
  split at this
  · rename_i v hv
    rw [hv, eqV_ok this]
  · cases this
theorem chk_of (h : DrawP G P T hs ops ts R Sf) {i : Nat} {o : Oper} {e : Ent} (ho : ops[i]? = some o) (he : R[i]? = some e)
    (hst : Region.wanted o (yieldedA ops e.ts) = true → stepD G P T hs i e.ts e.S o = some [(e.v, e.s)]) (hal : ∀ j, hs.getD i none = some j → ∃ t, allocOf o.op = some t) :
    Chk G P T hs ops ts R Sf i o e := by
  have hi : i < ops.size := by
    rcases Nat.lt_or_ge i ops.size with hlt | hge
    · exact hlt
    · rw [Array.getElem?_eq_none hge] at ho; cases ho
  obtain ⟨d1, d2, d3, d4, d5⟩ := h
  have h := List.all_eq_true.1 d1 i (List.mem_range.2 hi)
  simp only [ho, Bool.and_eq_true] at h
  obtain ⟨⟨⟨⟨c1, c2⟩, c3⟩, c4⟩, c5⟩ := h
  have hmem : ∀ x, x ∈ xsOf ops ↔ (x < ops.size ∧ isX ops x = true) := by
    intro x; unfold xsOf; rw [List.mem_filter, List.mem_range]
  have hxi : isX ops i = xop o := by unfold isX; rw [ho]
  have hkm : ∀ k, (k = 0 ∨ ∃ x, x < ops.size ∧ isX ops x = true ∧ k = x + 1) → k ∈ (0 :: (xsOf ops).map (· + 1)) := by
    rintro k (rfl | ⟨x, hx, hxx, rfl⟩)
    · simp
    · exact List.mem_cons_of_mem _ (List.mem_map.2 ⟨x, (hmem x).2 ⟨hx, hxx⟩, rfl⟩)
  have hbar : ∀ k, (∀ x, x < ops.size → isX ops x = true → (bit (befs ops.toList []) i x = true → x < k) ∧ (bit (befs ops.toList []) x i = true → k ≤ x)) → barred (befs ops.toList []) (xsOf ops) i k = false := by
    intro k hcomp
    cases hb : barred (befs ops.toList []) (xsOf ops) i k with
    | false => rfl
    | true =>
      exfalso
      unfold barred at hb
      obtain ⟨x, hx, hb⟩ := List.any_eq_true.1 hb
      obtain ⟨hx1, hx2⟩ := (hmem x).1 hx
      have hc := hcomp x hx1 hx2
      simp only [Bool.or_eq_true, Bool.and_eq_true, decide_eq_true_eq] at hb
      rcases hb with ⟨hb, hle⟩ | ⟨hb, hlt⟩
      · have := hc.1 hb; omega
      · have := hc.2 hb; omega
  have hnews : ∀ t, allocOf o.op = some t → (match R[i]?, hs.getD i none with
    | some e, some j => fresh T e.S j t && (ksAll (befs ops.toList []) (xsOf ops) i).all fun k => fresh T (SAt R Sf k) j t
    | _, _ => false) = true := by
    intro t ht
    refine List.all_eq_true.1 d5 (i, t, ksAll (befs ops.toList []) (xsOf ops) i) ?_
    unfold news
    rw [List.mem_filterMap]
    exact ⟨i, List.mem_range.2 hi, by rw [ho]; simp only [ht]⟩
  refine ⟨?_, ?_, ?_, ?_, ?_, ?_, ?_, ?_⟩
  · intro ed hed hb
    have := List.all_eq_true.1 c1 ed (by simpa using hed)
    rw [hb] at this
    simpa using this
  · intro t ht
    refine Nat.lt_of_lt_of_le ?_ d2
    refine top_mem ops.toList 0 ?_ ht
    exact List.mem_of_getElem? (i := i) (by simpa using ho)
  · intro t ht d hd hdt
    rw [ht] at c2
    have := List.all_eq_true.1 c2 d (List.mem_range.2 hd)
    simp only [Bool.or_eq_true, decide_eq_true_eq] at this
    rcases this with h | h
    · exact h
    · exact absurd hdt h
  · intro t ht d hd hdt hne
    have := List.all_eq_true.1 (List.all_eq_true.1 c3 t ht) d (List.mem_range.2 hd)
    simp only [Bool.or_eq_true, decide_eq_true_eq] at this
    rcases this with (h | h) | h
    · exact absurd h hne
    · exact absurd hdt h
    · constructor
      · intro hlt; rw [if_pos hlt] at h; exact h
      · intro hlt; rw [if_neg (by omega)] at h; exact h
  · intro hs' x hx hxx hne
    rw [hxi] at hs'
    rw [hs', Bool.not_true, Bool.false_or] at c5
    have := List.all_eq_true.1 c5 x ((hmem x).2 ⟨hx, hxx⟩)
    simp only [Bool.or_eq_true, decide_eq_true_eq] at this
    rcases this with h | h
    · exact absurd h hne
    · constructor
      · intro hlt; rw [if_pos hlt] at h; exact h
      · intro hlt; rw [if_neg (by omega)] at h; exact h
  · intro hx
    exact entsOk_ok d3 he (by rw [Nat.zero_add]; exact hx)
  · intro hx hw k hk hcomp hsame
    have hes := entsOk_ok d3 he (by rw [Nat.zero_add]; exact hx)
    have hst := hst hw
    rw [hes] at hst
    cases hl : allocOf o.op with
    | some t =>
      have := hnews t hl
      rw [he] at this
      cases hh : hs.getD i none with
      | none => rw [hh] at this; cases this
      | some j =>
        unfold stepD at hst ⊢
        rw [hh] at hst ⊢
        exact hst
    | none =>
      have hh : hs.getD i none = none := by
        cases hh : hs.getD i none with
        | none => rfl
        | some j => obtain ⟨t, ht⟩ := hal j hh; rw [hl] at ht; cases ht
      by_cases hlone : alone o.op = true
      · unfold stepD at hst ⊢
        rw [hh] at hst ⊢
        rw [stepOp_lone hlone (SAt R Sf k) e.S]
        exact hst
      · have hin : (i, ksOf (befs ops.toList []) (xsOf ops) i) ∈ again ops := by
          unfold again
          rw [List.mem_filterMap]
          refine ⟨i, List.mem_range.2 hi, ?_⟩
          rw [hxi] at hx
          rw [ho]
          simp [hx, hlone, hl]
        have hks : k ∈ ksOf (befs ops.toList []) (xsOf ops) i := by
          unfold ksOf
          rw [List.mem_filter]
          refine ⟨hkm k hk, ?_⟩
          rw [hbar k hcomp]
          cases hsm : Go.Ax.same (xsOf ops) i k with
          | false => rfl
          | true =>
            exfalso
            refine hsame fun x hx1 hx2 => ?_
            have := List.all_eq_true.1 hsm x ((hmem x).2 ⟨hx1, hx2⟩)
            rw [beq_iff_eq] at this
            rw [← decide_eq_true_iff (p := x < k), ← decide_eq_true_iff (p := x < i), this]
        exact d4 _ _ hin o e ho he hw k hks
  · intro j hj
    obtain ⟨t, ht⟩ := hal j hj
    have := hnews t ht
    rw [he, hj] at this
    simp only [Bool.and_eq_true] at this
    rw [ht]
    refine ⟨?_, this.1, ?_⟩
    · rw [ht] at c4
      simpa using c4
    · intro k hk hcomp
      refine List.all_eq_true.1 this.2 k ?_
      unfold ksAll
      rw [List.mem_filter]
      exact ⟨hkm k hk, by rw [hbar k hcomp]; rfl⟩

structure Cn (G : Fns) (P : Program) (T : Tab) (hs : List (Option Nat)) (ops : Array Oper) (ts : List Value) (S : St) (R : List Ent) (tf : List Value) (Sf : St) : Prop where
  len : R.length = ops.size
  t0 : tsAt R tf 0 = ts
  s0 : SAt R Sf 0 = S
  ent : ∀ k o, ops[k]? = some o → ∃ e, R[k]? = some e ∧ (Region.wanted o (yieldedA ops e.ts) = true → stepD G P T hs k e.ts e.S o = some [(e.v, e.s)]) ∧
      (Region.wanted o (yieldedA ops e.ts) = false → e.v = undef ∧ e.s = none) ∧ tsAt R tf (k + 1) = putA e.ts o.dst e.v ∧ SAt R Sf (k + 1) = e.s.getD e.S

theorem cn_of (h : canon G P T hs ops 0 ops.toList ts S = some (R, tf, Sf)) : Cn G P T hs ops ts S R tf Sf := by
  obtain ⟨h1, h2, h3, h4⟩ := canon_spec h
  refine ⟨by simpa using h1, h2, h3, fun k o ho => ?_⟩
  have := h4 k o (by simpa using ho)
  rwa [Nat.zero_add] at this

theorem tsAt_of {k : Nat} {e : Ent} (h : R[k]? = some e) : tsAt R tf k = e.ts := by unfold tsAt; rw [h]
theorem SAt_of {k : Nat} {e : Ent} (h : R[k]? = some e) : SAt R Sf k = e.S := by unfold SAt; rw [h]

theorem putA_length (ts : List Value) (d : Option Tmp) (v : Value) : (putA ts d v).length = ts.length := by cases d <;> simp [putA, lset_eq]
theorem putA_same {ts : List Value} {t : Tmp} (v : Value) (h : t < ts.length) : (putA ts (some t) v)[t]? = some v := by simp [putA, lset_eq, h]
theorem putA_ne {ts : List Value} {d : Option Tmp} {t : Tmp} (v : Value) (h : d ≠ some t) : (putA ts d v)[t]? = ts[t]? := by
  cases d with
  | none => rfl
  | some u => simp only [putA, lset_eq]; rw [List.getElem?_set_ne (fun e => h (by rw [e]))]

variable (hC : Cn G P T hs ops ts S R tf Sf)
include hC
variable (hK : ∀ {i : Nat} {o : Oper} {e : Ent}, ops[i]? = some o → R[i]? = some e → Chk G P T hs ops ts R Sf i o e)
include hK


/-- the store changes at the effects alone -/
theorem canon_S_le : ∀ k j, k ≤ j → j ≤ ops.size → (∀ x, x < ops.size → isX ops x = true → ¬ (k ≤ x ∧ x < j)) → SAt R Sf j = SAt R Sf k := by
  intro k j hkj
  induction j with
  | zero => intro _ _; have : k = 0 := by omega
            rw [this]
  | succ j ih =>
    intro hj hx
    by_cases he : k = j + 1
    · rw [he]
    · have ho : ops[j]? = some ops[j] := Array.getElem?_eq_getElem (by omega)
      obtain ⟨e, he', _, _, _, j2⟩ := hC.ent j _ ho
      have hnx : e.s = none := by
        have := hx j (by omega)
        cases hxx : isX ops j with
        | true => exact absurd (by omega) (this hxx)
        | false => exact (hK ho he').nox hxx
      rw [j2, hnx]
      rw [← ih (by omega) (by omega) (fun x hx1 hx2 hx3 => hx x hx1 hx2 (by omega)), SAt_of he']
      rfl
theorem canon_S {k j : Nat} (hk : k ≤ ops.size) (hj : j ≤ ops.size) (h : ∀ x, x < ops.size → isX ops x = true → (x < k ↔ x < j)) : SAt R Sf k = SAt R Sf j := by
  rcases Nat.le_total k j with hle | hle
  · exact (canon_S_le hC hK k j hle hj fun x h1 h2 ⟨h3, h4⟩ => by have := (h x h1 h2).2 h4; omega).symm
  · exact canon_S_le hC hK j k hle hk fun x h1 h2 ⟨h3, h4⟩ => by have := (h x h1 h2).1 h4; omega
/-- the temporaries along the text's order -/
theorem canon_ts : ∀ k, k ≤ ops.size → (tsAt R tf k).length = ts.length ∧ (∀ d o e t, d < k → ops[d]? = some o → R[d]? = some e → o.dst = some t → (tsAt R tf k)[t]? = some e.v) ∧
    (∀ t, (∀ d, d < k → dstAt ops d ≠ some t) → (tsAt R tf k)[t]? = ts[t]?) := by
  intro k
  induction k with
  | zero =>
    intro _
    rw [hC.t0]
    exact ⟨rfl, fun d o e t hd => by omega, fun _ _ => rfl⟩
  | succ k ih =>
    intro hk
    obtain ⟨i1, i2, i3⟩ := ih (by omega)
    have ho : ops[k]? = some ops[k] := Array.getElem?_eq_getElem (by omega)
    obtain ⟨e, he, _, _, j1, _⟩ := hC.ent k _ ho
    have hc := hK ho he
    rw [tsAt_of he] at i1 i2 i3
    rw [j1]
    refine ⟨by rw [putA_length]; exact i1, ?_, ?_⟩
    · intro d o' e' t hd ho' he' ht
      by_cases hdk : d = k
      · subst hdk
        rw [ho] at ho'
        rw [he] at he'
        cases ho'
        cases he'
        rw [ht]
        exact putA_same _ (by rw [i1]; exact hc.dlt t ht)
      · have hne : (ops[k]).dst ≠ some t := by
          intro hh
          have := hc.done t hh d (by omega) (by unfold dstAt; rw [ho']; exact ht)
          exact hdk this
        rw [putA_ne _ hne]
        exact i2 d o' e' t (by omega) ho' he' ht
    · intro t ht
      have hne : (ops[k]).dst ≠ some t := by
        have := ht k (by omega)
        unfold dstAt at this
        rw [ho] at this
        exact this
      rw [putA_ne _ hne]
      exact i3 t fun d hd => ht d (by omega)

end
end Go.Ax
end
/- part AxV -/
section
/- Regions that draw their order: whichever order is drawn. -/
namespace Go.Ax
open Go.RowKit

/-- the numbers whose variables are not made yet -/
noncomputable def Pend (hs : List (Option Nat)) (b : Base) (L : List Nat) : Base := ⟨b.w, b.own, fun j => b.hole j ∨ ∃ i, i ∉ L ∧ hs.getD i none = some j⟩
theorem Pend.cons {hs : List (Option Nat)} {b : Base} {L : List Nat} {i : Nat} (hh : hs.getD i none = none) {E : Env} {S : St} {w : World} (h : SR (Pend hs b L) E S w) : SR (Pend hs b (i :: L)) E S w := by
  refine h.holes fun j => or_congr_right ⟨?_, ?_⟩
  · rintro ⟨q, h1, h2⟩
    refine ⟨q, fun hq => ?_, h2⟩
    rcases List.mem_cons.1 hq with rfl | hq
    · rw [hh] at h2; cases h2
    · exact h1 hq
  · rintro ⟨q, h1, h2⟩
    exact ⟨q, fun hq => h1 (List.mem_cons_of_mem _ hq), h2⟩
theorem run_alloc {P : Program} {T : Tab} (hT : TabOK P T) {t : TypeId} {ti : TI} (h : T.info t = some ti) (w : World) :
    (Instr.alloc t true (.tuple #[])).run P w = .ok (.pointer (some ⟨w.heap.size, 0, none⟩)) (w.alloc (.cells ti.zero.cells t)) := by
  simp [Instr.alloc, run_zero hT h, newVar, newRow]

section
variable {P : Program} {T : Tab} (hT : TabOK P T) {G : Fns} (hG : OK P G) {hs : List (Option Nat)} {ops : Array Oper} {ts : List Value} {S : St} {R : List Ent} {tf : List Value} {Sf : St}

/-- where an order stands -/
structure DI (ops : Array Oper) (ts : List Value) (R : List Ent) (L : List Nat) (listed : Array Bool) (fuel : Nat) (t1 : List Value) (k : Nat) : Prop where
  size : listed.size = ops.size
  nd : L.Nodup
  lt : ∀ i ∈ L, i < ops.size
  len : L.length + fuel = ops.size
  mem : ∀ i, i < ops.size → (listed.getD i true = true ↔ i ∈ L)
  memf : ∀ i, listed.getD i false = true → i ∈ L
  closed : Closed ops L
  tlen : t1.length = ts.length
  told : ∀ d o e t, d ∈ L → ops[d]? = some o → R[d]? = some e → o.dst = some t → t1[t]? = some e.v
  tnew : ∀ t, (∀ d, d ∈ L → dstAt ops d ≠ some t) → t1[t]? = ts[t]?
  kle : k ≤ ops.size
  krep : k = 0 ∨ ∃ x, x < ops.size ∧ isX ops x = true ∧ k = x + 1
  kx : ∀ x, x < ops.size → isX ops x = true → (x ∈ L ↔ x < k)

theorem evalA_looks {o : Oper} {t1 t2 : List Value} (h : ∀ t ∈ o.looksAt ops, t1[t]? = t2[t]?) : ∀ x ∈ o.op.operands, evalA t1 x = evalA t2 x := by
  intro x hx
  refine evalA_congr ?_
  rintro t rfl
  refine h t ?_
  unfold Oper.looksAt
  refine List.mem_append_left _ ?_
  rw [List.mem_filterMap]
  exact ⟨.tmp t, by simpa using hx, rfl⟩
theorem wanted_looks {o : Oper} {t1 t2 : List Value} (h : ∀ t ∈ o.looksAt ops, t1[t]? = t2[t]?) : Region.wanted o (yieldedA ops t1) = Region.wanted o (yieldedA ops t2) := by
  unfold Region.wanted
  cases hg : o.guard with
  | none => rfl
  | some g =>
    obtain ⟨j, want⟩ := g
    simp only
    have : yieldedA ops t1 j = yieldedA ops t2 j := by
      unfold yieldedA
      cases hd : (ops[j]?).bind (·.dst) with
      | none => rfl
      | some d =>
        simp only [Option.bind_some, lget_eq]
        rw [h d (by unfold Oper.looksAt; rw [hg]; simp only [hd]; exact List.mem_append_right _ (by simp))]
    rw [this]

variable (hK : ∀ {i : Nat} {o : Oper} {e : Ent}, ops[i]? = some o → R[i]? = some e → Chk G P T hs ops ts R Sf i o e)
include hK

/-- one operation more -/
theorem DI.next {L : List Nat} {listed : Array Bool} {fuel : Nat} {t1 : List Value} {k k' : Nat} (hD : DI ops ts R L listed (fuel + 1) t1 k) {i : Nat} {o : Oper} {e : Ent} (ho : ops[i]? = some o) (he : R[i]? = some e)
    (hiL : i ∉ L) (hcl : Closed ops (i :: L)) (hk' : k' ≤ ops.size) (hrep : k' = 0 ∨ ∃ x, x < ops.size ∧ isX ops x = true ∧ k' = x + 1) (hkx : ∀ x, x < ops.size → isX ops x = true → (x ∈ i :: L ↔ x < k')) :
    DI ops ts R (i :: L) (listed.setIfInBounds i true) fuel (putA t1 o.dst e.v) k' := by
  have hi : i < ops.size := by
    rcases Nat.lt_or_ge i ops.size with hlt | hge
    · exact hlt
    · rw [Array.getElem?_eq_none hge] at ho; cases ho
  have hc := hK ho he
  have hget : ∀ (j : Nat) (b : Bool), (listed.setIfInBounds i true).getD j b = if j = i then true else listed.getD j b := by
    intro j b
    have hsz := hD.size
    simp only [Array.getD_eq_getD_getElem?, Array.getElem?_setIfInBounds]
    by_cases hj : i = j
    · subst hj
      simp [hsz, hi]
    · rw [if_neg hj, if_neg (fun e => hj e.symm)]
  refine ⟨by rw [Array.size_setIfInBounds]; exact hD.size, List.nodup_cons.2 ⟨hiL, hD.nd⟩, ?_, ?_, ?_, ?_, hcl, by rw [putA_length]; exact hD.tlen, ?_, ?_, hk', hrep, hkx⟩
  · intro j hj
    rcases List.mem_cons.1 hj with rfl | hj
    · exact hi
    · exact hD.lt j hj
  · have := hD.len
    simp only [List.length_cons]
    omega
  · intro j hj
    rw [hget]
    by_cases hji : j = i
    · simp [hji]
    · rw [if_neg hji, hD.mem j hj]
      constructor
      · exact fun h => List.mem_cons_of_mem _ h
      · intro h
        rcases List.mem_cons.1 h with h | h
        · exact absurd h hji
        · exact h
  · intro j hj
    rw [hget] at hj
    by_cases hji : j = i
    · simp [hji]
    · rw [if_neg hji] at hj
      exact List.mem_cons_of_mem _ (hD.memf j hj)
  · intro d o' e' t hd ho' he' ht
    by_cases hdi : d = i
    · subst hdi
      rw [ho] at ho'; rw [he] at he'
      cases ho'; cases he'
      rw [ht]
      exact putA_same _ (by rw [hD.tlen]; exact hc.dlt t ht)
    · have hdL : d ∈ L := by
        rcases List.mem_cons.1 hd with h | h
        · exact absurd h hdi
        · exact h
      have hne : o.dst ≠ some t := by
        intro hh
        exact hdi (hc.done t hh d (hD.lt d hdL) (by unfold dstAt; rw [ho']; exact ht))
      rw [putA_ne _ hne]
      exact hD.told d o' e' t hdL ho' he' ht
  · intro t ht
    have hne : o.dst ≠ some t := by
      have := ht i (by simp)
      unfold dstAt at this
      rw [ho] at this
      exact this
    rw [putA_ne _ hne]
    exact hD.tnew t fun d hd => ht d (List.mem_cons_of_mem _ hd)

variable (hC : Cn G P T hs ops ts S R tf Sf)
include hC

/-- what an operation that is ready sees -/
theorem ready_sees {L : List Nat} {listed : Array Bool} {fuel : Nat} {t1 : List Value} {k : Nat} (hD : DI ops ts R L listed fuel t1 k) {i : Nat} {o : Oper} {e : Ent} (ho : ops[i]? = some o) (he : R[i]? = some e)
    (hiL : i ∉ L) (hedge : ∀ ed ∈ o.after, Region.binds .any ed = true → ed.on ∈ L) :
    (∀ t ∈ o.looksAt ops, t1[t]? = e.ts[t]?) ∧ (∀ x, x < ops.size → (bit (befs ops.toList []) i x = true → x ≠ i → x ∈ L)) ∧ (∀ x, x ∈ L → bit (befs ops.toList []) x i = true → False) ∧ Closed ops (i :: L) := by
  have hi : i < ops.size := by
    rcases Nat.lt_or_ge i ops.size with hlt | hge
    · exact hlt
    · rw [Array.getElem?_eq_none hge] at ho; cases ho
  have hcl : Closed ops (i :: L) := by
    intro j hj o' ho' ed hed hb
    rcases List.mem_cons.1 hj with rfl | hj
    · rw [ho] at ho'; cases ho'; exact List.mem_cons_of_mem _ (hedge ed hed hb)
    · exact List.mem_cons_of_mem _ (hD.closed j hj o' ho' ed hed hb)
  have hb1 : ∀ x, x < ops.size → (bit (befs ops.toList []) i x = true → x ≠ i → x ∈ L) := by
    intro x _ hb hne
    have := befs_ok hcl ops.toList [] (fun k o h => by simpa using h) (fun i j _ h => by simp at h) i x (by simp) hb
    rcases List.mem_cons.1 this with h | h
    · exact absurd h hne
    · exact h
  have hb2 : ∀ x, x ∈ L → bit (befs ops.toList []) x i = true → False := by
    intro x hx hb
    exact hiL (befs_ok hD.closed ops.toList [] (fun k o h => by simpa using h) (fun i j _ h => by simp at h) x i hx hb)
  refine ⟨?_, hb1, hb2, hcl⟩
  intro t ht
  have hc := hK ho he
  obtain ⟨c1, c2, c3⟩ := canon_ts hC hK i (by omega)
  rw [tsAt_of he] at c1 c2 c3
  by_cases hw : ∃ d, d < ops.size ∧ dstAt ops d = some t ∧ d ≠ i
  · obtain ⟨d, hd, hdt, hne⟩ := hw
    obtain ⟨b1, b2⟩ := hc.look t ht d hd hdt hne
    have hod : ops[d]? = some ops[d] := Array.getElem?_eq_getElem hd
    have hdd : (ops[d]).dst = some t := by unfold dstAt at hdt; rw [hod] at hdt; exact hdt
    obtain ⟨ed, hed, _⟩ := hC.ent d _ hod
    have huniq : ∀ d', d' < ops.size → dstAt ops d' = some t → d' = d := (hK hod hed).done t hdd
    by_cases hlt : d < i
    · have hdL := hb1 d hd (b1 hlt) hne
      rw [hD.told d _ ed t hdL hod hed hdd, c2 d _ ed t hlt hod hed hdd]
    · have hdL : d ∉ L := fun h => hb2 d h (b2 (by omega))
      rw [hD.tnew t (fun d' hd' hdt' => hdL (by rw [← huniq d' (hD.lt d' hd') hdt']; exact hd')), c3 t (fun d' hd' hdt' => by have := huniq d' (by omega) hdt'; omega)]
  · have hno : ∀ d, d < ops.size → d ≠ i → dstAt ops d ≠ some t := fun d hd hne hdt => hw ⟨d, hd, hdt, hne⟩
    rw [hD.tnew t (fun d hd => hno d (hD.lt d hd) (fun e => hiL (e ▸ hd))), c3 t (fun d hd => hno d (by omega) (by omega))]

include hT hG in
theorem any_ok {ro' : Option Nat} {n : Nat} {w0 : Base} (hal : ∀ i j, hs.getD i none = some j → ¬ w0.hole j ∧ ∃ o t, ops[i]? = some o ∧ allocOf o.op = some t)
    (hinj : ∀ i i' j, hs.getD i none = some j → hs.getD i' none = some j → i = i') {Q : Exit → Act → World → Prop} {E0 : Env} {a0 : Act} {wb : World}
    (hQ : ∀ E' a' w', E0.le E' → SR w0 E' Sf w' → VRs E' tf a'.tmps.toList → a'.defers = a0.defers → Keeps S Sf → wb.heap.size ≤ w'.heap.size → Q .normal a' w') :
    ∀ (fuel : Nat) (L : List Nat) (listed : Array Bool) (t1 : List Value) (k : Nat) (E : Env) (a : Act) (w : World), DI ops ts R L listed fuel t1 k → E0.le E → SR (Pend hs w0 L) E (SAt R Sf k) w → VRs E t1 a.tmps.toList → a.defers = a0.defers →
      Keeps S (SAt R Sf k) → wb.heap.size ≤ w.heap.size → wpAnyIn (fence ro') n P .any ops Q fuel listed a w := by
  have hend : ∀ (fuel : Nat) (L : List Nat) (listed : Array Bool) (t1 : List Value) (k : Nat) (E : Env) (a : Act) (w : World), DI ops ts R L listed fuel t1 k → E0.le E → SR (Pend hs w0 L) E (SAt R Sf k) w → VRs E t1 a.tmps.toList → a.defers = a0.defers →
      Keeps S (SAt R Sf k) → wb.heap.size ≤ w.heap.size → (∀ i, i < ops.size → i ∈ L) → Q .normal a w := by
    intro fuel L listed t1 k E a w hD hE hS ht hd hk hz hall
    have hSf : SAt R Sf k = Sf := by
      have h1 := canon_S hC hK hD.kle (Nat.le_refl ops.size) (fun x hx hxx => ⟨fun _ => hx, fun _ => (hD.kx x hx hxx).1 (hall x hx)⟩)
      rw [h1]
      unfold SAt
      rw [List.getElem?_eq_none (by rw [hC.len]; exact Nat.le_refl _)]
    have htf : t1 = tf := by
      obtain ⟨c1, c2, c3⟩ := canon_ts hC hK ops.size (Nat.le_refl _)
      have htfe : tsAt R tf ops.size = tf := by
        unfold tsAt
        rw [List.getElem?_eq_none (by rw [hC.len]; exact Nat.le_refl _)]
      rw [htfe] at c1 c2 c3
      apply List.ext_getElem?
      intro t
      by_cases hw : ∃ d, d < ops.size ∧ dstAt ops d = some t
      · obtain ⟨d, hd', hdt⟩ := hw
        have hod : ops[d]? = some ops[d] := Array.getElem?_eq_getElem hd'
        have hdd : (ops[d]).dst = some t := by unfold dstAt at hdt; rw [hod] at hdt; exact hdt
        obtain ⟨ed, hed, _⟩ := hC.ent d _ hod
        rw [hD.told d _ ed t (hall d hd') hod hed hdd, c2 d _ ed t hd' hod hed hdd]
      · rw [hD.tnew t (fun d hd' hdt => hw ⟨d, hD.lt d hd', hdt⟩), c3 t (fun d hd' hdt => hw ⟨d, hd', hdt⟩)]
    rw [hSf] at hS hk
    subst htf
    refine hQ E a w hE (hS.holes fun j => ⟨?_, .inl⟩) ht hd hk hz
    rintro (h | ⟨i, h1, h2⟩)
    · exact h
    · obtain ⟨_, o, _, h3, _⟩ := hal i j h2
      refine absurd (hall i ?_) h1
      rcases Nat.lt_or_ge i ops.size with hlt | hge
      · exact hlt
      · rw [Array.getElem?_eq_none hge] at h3; cases h3
  intro fuel
  induction fuel with
  | zero =>
    intro L listed t1 k E a w hD hE hS ht hd hk hz
    have hall := full_of_length ops.size L hD.nd hD.lt (by have := hD.len; omega)
    refine ⟨?_, hend _ L listed t1 k E a w hD hE hS ht hd hk hz hall⟩
    unfold Region.ready
    rw [List.filter_eq_nil_iff]
    intro i hi
    have := (hD.mem i (List.mem_range.1 hi)).2 (hall i (List.mem_range.1 hi))
    simp [this]
  | succ fuel ih =>
    intro L listed t1 k E a w hD hE hS ht hd hk hz
    constructor
    · intro hnil
      refine hend _ L listed t1 k E a w hD hE hS ht hd hk hz ?_
      -- the least that is not listed would be ready
      intro i
      induction i using Nat.strongRecOn with
      | _ i ihi =>
        intro hi
        by_cases hiL : i ∈ L
        · exact hiL
        · exfalso
          have ho : ops[i]? = some ops[i] := Array.getElem?_eq_getElem hi
          obtain ⟨e, he, _⟩ := hC.ent i _ ho
          have hc := hK ho he
          have hready : i ∈ Region.ready .any ops listed := by
            unfold Region.ready
            rw [List.mem_filter]
            refine ⟨List.mem_range.2 hi, ?_⟩
            have h1 : listed.getD i true = false := by
              cases hb : listed.getD i true with
              | false => rfl
              | true => exact absurd ((hD.mem i hi).1 hb) hiL
            rw [h1, ho]
            simp only [Bool.not_false, Option.map_some, Option.getD_some, Bool.true_and]
            rw [Array.all_eq_true_iff_forall_mem]
            intro ed hed
            cases hb : Region.binds .any ed with
            | false => simp
            | true =>
              have hlt := hc.back ed hed hb
              have hon := ihi ed.on hlt (by omega)
              have hm := (hD.mem ed.on (by omega)).2 hon
              have hs := hD.size
              have : listed.getD ed.on false = true := by
                rw [Array.getD_eq_getD_getElem?] at hm ⊢
                rw [Array.getElem?_eq_getElem (by omega)] at hm ⊢
                exact hm
              simp [this]
          rw [hnil] at hready
          simp at hready
    · intro i hi
      unfold Region.ready at hi
      rw [List.mem_filter, List.mem_range] at hi
      obtain ⟨hilt, hr⟩ := hi
      have ho : ops[i]? = some ops[i] := Array.getElem?_eq_getElem hilt
      rw [ho] at hr
      simp only [Option.map_some, Option.getD_some, Bool.and_eq_true, Bool.not_eq_true'] at hr
      have hiL : i ∉ L := by
        intro h
        have := (hD.mem i hilt).2 h
        rw [this] at hr
        exact absurd hr.1 (by simp)
      have hedge : ∀ ed ∈ (ops[i]).after, Region.binds .any ed = true → ed.on ∈ L := by
        intro ed hed hb
        have := (Array.all_eq_true_iff_forall_mem.1 hr.2) ed hed
        rw [hb] at this
        exact hD.memf ed.on (by simpa using this)
      obtain ⟨e, he, e1, e2, e3, e4⟩ := hC.ent i _ ho
      have hc := hK ho he
      obtain ⟨s1, s2, s3, s4⟩ := ready_sees hK hC hD ho he hiL hedge
      have hcongr := stepOp_congr (G := G) (P := P) (T := T) (S := SAt R Sf k) (evalA_looks s1)
      have hwant := wanted_looks s1
      unfold wpOpIn
      rw [ho]
      simp only
      have hw : Region.wanted ops[i] (yielded ops a.tmps) = Region.wanted ops[i] (yieldedA ops e.ts) := by
        rw [← hwant]
        have : yielded ops a.tmps = yieldedA ops t1 := funext fun j => yielded_rel ht j
        rw [this]
      rw [hw]
      -- the effects that have been are those ahead of i in the text
      have hcomp : isX ops i = false → ∀ x, x < ops.size → isX ops x = true → (bit (befs ops.toList []) i x = true → x < k) ∧ (bit (befs ops.toList []) x i = true → k ≤ x) := by
        intro hX' x hx hxx
        have hxi : x ≠ i := by
          intro h
          subst h
          rw [hX'] at hxx
          cases hxx
        constructor
        · intro hb
          exact (hD.kx x hx hxx).1 (s2 x hx hb hxi)
        · intro hb
          rcases Nat.lt_or_ge x k with hlt | hge
          · exact (s3 x ((hD.kx x hx hxx).2 hlt) hb).elim
          · exact hge
      have hDn : isX ops i = false → DI ops ts R (i :: L) (listed.setIfInBounds i true) fuel (putA t1 (ops[i]).dst e.v) k := by
        intro hX'
        exact DI.next hK hD ho he hiL s4 (k' := k) hD.kle hD.krep (by
            intro x hx hxx
            rw [← hD.kx x hx hxx, List.mem_cons]
            constructor
            · rintro (rfl | h)
              · rw [hX'] at hxx; cases hxx
              · exact h
            · exact .inr)
      -- where an effect stands
      have hkk : isX ops i = true → ∀ x, x < ops.size → isX ops x = true → (x < k ↔ x < i) := by
        intro hX x hx hxx
        rw [← hD.kx x hx hxx]
        by_cases hxi : x = i
        · subst hxi
          exact ⟨fun h => absurd h hiL, fun h => by omega⟩
        · obtain ⟨b1, b2⟩ := hc.x hX x hx hxx hxi
          constructor
          · intro h
            rcases Nat.lt_or_ge x i with hlt | hge
            · exact hlt
            · exact (s3 x h (b2 (by omega))).elim
          · intro h
            exact s2 x hx (b1 h) hxi
      have hDx : isX ops i = true → DI ops ts R (i :: L) (listed.setIfInBounds i true) fuel (putA t1 (ops[i]).dst e.v) (i + 1) := by
        intro hX
        exact DI.next hK hD ho he hiL s4 (k' := i + 1) (by omega) (.inr ⟨i, hilt, hX, rfl⟩) (by
            intro x hx hxx
            have h1 := hD.kx x hx hxx
            have h2 := hkk hX x hx hxx
            rw [List.mem_cons]
            constructor
            · rintro (rfl | h)
              · omega
              · have := h2.1 (h1.1 h); omega
            · intro h
              by_cases hxi : x = i
              · exact .inl hxi
              · exact .inr (h1.2 (h2.2 (by omega))))
      have hSk : isX ops i = true → SAt R Sf k = e.S := fun hX => by rw [canon_S hC hK hD.kle (by omega : i ≤ ops.size) (hkk hX), SAt_of he]
      cases hh : hs.getD i none with
      | some j =>
        obtain ⟨c1, c2, c3⟩ := hc.al j hh
        obtain ⟨hnh, o2, t2, ho2, ht2⟩ := hal i j hh
        rw [ho] at ho2
        cases ho2
        have hwv : Region.wanted ops[i] (yieldedA ops e.ts) = true := by unfold Region.wanted; rw [c1]
        rw [hwv, if_pos rfl]
        have hst := e1 hwv
        unfold stepD at hst
        rw [hh] at hst
        simp only [Option.some.injEq, List.cons.injEq, Prod.mk.injEq, and_true] at hst
        obtain ⟨hev, hes⟩ := hst
        have hX' : isX ops i = false := by
          unfold isX
          rw [ho]
          simp only [xop, ht2, Option.isNone_some, Bool.and_false, Bool.or_false]
          rw [allocOf_eq ht2]
          rfl
        have hf := c3 k hD.krep (hcomp hX')
        rw [ht2, Option.getD_some] at hf
        unfold fresh at hf
        split at hf
        case h_2 => cases hf
        case h_1 cs t' ti hg hti =>
          simp only [Bool.and_eq_true, decide_eq_true_eq] at hf
          obtain ⟨⟨hp, rfl⟩, hcs⟩ := hf
          have hcs := eqLs_ok (fun h => eqS_ok h) hcs
          have hop := allocOf_eq ht2
          have hfill := hS.fill (j := j) (κ := 0) (ob := .cells ti.zero.cells t') (.inr ⟨i, hiL, hh⟩) hg (by
            intro w' hw'
            refine ⟨w.heap.size, 0, ti.zero.cells.toList, [], Env.upd_same _ _ _, by simpa using hw', ?_, fun _ => rfl, fun h => absurd rfl h⟩
            rw [hcs]
            exact (VR.of_plain hp).cells)
          obtain ⟨hle, hS'⟩ := hfill
          have hsem : (ops[i]).semAt (fence ro').round a.eval = execOp a.eval ops[i] := Oper.semAt_eq _ _ _ (by intro c; rw [hop]; simp)
          have hrun : (execOp a.eval ops[i]).run P w = .ok (.value (.pointer (some ⟨w.heap.size, 0, none⟩))) (w.alloc (.cells ti.zero.cells t')) := by
            unfold execOp
            rw [hop]
            simp [run_alloc hT hti]
          refine ⟨about_trivial, ?_⟩
          rw [hsem, hrun]
          refine ih (i :: L) _ _ k _ _ _ (hDn hX') (hE.trans hle) (hS'.holes fun q => ?_) (put_rel (ht.mono hle) _ ?_) (by rw [← hd]; cases (ops[i]).dst <;> rfl) hk (by rw [World.size_alloc]; omega)
          · constructor
            · rintro ⟨h | ⟨i2, h1, h2⟩, hne⟩
              · exact .inl h
              · refine .inr ⟨i2, fun hm => ?_, h2⟩
                rcases List.mem_cons.1 hm with rfl | hm
                · rw [hh] at h2; cases h2; exact hne rfl
                · exact h1 hm
            · rintro (h | ⟨i2, h1, h2⟩)
              · exact ⟨.inl h, fun e => hnh (e ▸ h)⟩
              · refine ⟨.inr ⟨i2, fun hm => h1 (List.mem_cons_of_mem _ hm), h2⟩, fun e => ?_⟩
                subst e
                exact h1 (by rw [hinj _ _ _ h2 hh]; simp)
          · rw [← hev]
            exact .ptr 0 (Env.upd_same _ _ _)
      | none =>
      have hsd : ∀ ts S, stepD G P T hs i ts S ops[i] = stepOp G P T ts S ops[i] := by intro ts S; unfold stepD; rw [hh]
      rw [hsd] at e1
      by_cases hX : isX ops i = true
      · -- an effect
        have hSk := hSk hX
        cases hwv : Region.wanted ops[i] (yieldedA ops e.ts) with
        | true =>
          rw [if_pos rfl]
          have hst := e1 hwv
          rw [hSk] at hcongr hS hk
          rw [hst] at hcongr
          refine step_ok hT hG hcongr hS ht ?_
          intro r hr' E' v' w' hE' hS' hv' hk' hz'
          simp only [List.mem_singleton] at hr'
          subst hr'
          simp only at hS' hv' hk'
          rw [← e4] at hS' hk'
          exact ih (i :: L) _ _ (i + 1) E' _ w' (hDx hX) (hE.trans hE') (Pend.cons hh hS') (put_rel (ht.mono hE') _ hv') (by rw [← hd]; cases (ops[i]).dst <;> rfl) (hk.trans hk') (Nat.le_trans hz hz')
        | false =>
          rw [if_neg (by simp)]
          obtain ⟨v0, hX'⟩ := e2 hwv
          refine ⟨about_trivial, ?_⟩
          have hD' := hDx hX
          rw [v0] at hD'
          rw [hX', Option.getD_none] at e4
          rw [hSk, ← e4] at hS hk
          exact ih (i :: L) _ _ (i + 1) E _ w hD' hE (Pend.cons hh hS) (put_rel ht _ (.tuple .nil)) (by rw [← hd]; cases (ops[i]).dst <;> rfl) hk hz
      · have hX' : isX ops i = false := by simpa using hX
        have hes := hc.nox hX'
        have hD' := hDn hX'
        cases hwv : Region.wanted ops[i] (yieldedA ops e.ts) with
        | true =>
          rw [if_pos rfl]
          have hst := e1 hwv
          have hev : stepOp G P T e.ts (SAt R Sf k) ops[i] = some [(e.v, none)] := by
            by_cases hsame : ∀ x, x < ops.size → isX ops x = true → (x < k ↔ x < i)
            · rw [canon_S hC hK hD.kle (by omega : i ≤ ops.size) hsame, SAt_of he, hst, hes]
            · rw [← hsd]
              exact hc.nx hX' hwv k hD.krep (hcomp hX') hsame
          rw [hev] at hcongr
          refine step_ok hT hG hcongr hS ht ?_
          intro r hr' E' v' w' hE' hS' hv' hk' hz'
          simp only [List.mem_singleton] at hr'
          subst hr'
          simp only [Option.getD_none] at hS' hv' hk'
          exact ih (i :: L) _ _ k E' _ w' hD' (hE.trans hE') (Pend.cons hh hS') (put_rel (ht.mono hE') _ hv') (by rw [← hd]; cases (ops[i]).dst <;> rfl) (hk.trans hk') (Nat.le_trans hz hz')
        | false =>
          rw [if_neg (by simp)]
          obtain ⟨v0, _⟩ := e2 hwv
          refine ⟨about_trivial, ?_⟩
          rw [v0] at hD'
          exact ih (i :: L) _ _ k E _ w hD' hE (Pend.cons hh hS) (put_rel ht _ (.tuple .nil)) (by rw [← hd]; cases (ops[i]).dst <;> rfl) hk hz
end
end Go.Ax
end
/- part AxVa -/
section
/- What a call made and nothing leads to is given up; the rest is counted anew. -/
namespace Go.Ax
open Go.RowKit

noncomputable def idxA : List Nat → Nat → Nat → Option Nat
  | [], _, _ => none
  | k :: ks, b, j => match Nat.beq k b with
    | true => some j
    | false => idxA ks b (j + 1)
theorem idxA_ok : ∀ {ks : List Nat} {b j m : Nat}, idxA ks b j = some m → ∃ i, m = j + i ∧ ks[i]? = some b := by
  intro ks
  induction ks with
  | nil => intro b j m h; cases h
  | cons k ks ih =>
    intro b j m h
    simp only [idxA] at h
    split at h
    · rename_i hb
      cases h
      exact ⟨0, rfl, by rw [Nat.eq_of_beq_eq_true hb]; rfl⟩
    · obtain ⟨i, h1, h2⟩ := ih h
      exact ⟨i + 1, by omega, by simpa using h2⟩
noncomputable def nmA (n : Nat) (ks : List Nat) (b : Nat) : Option Nat :=
  match Nat.blt b n with
  | true => some b
  | false => idxA ks b n
noncomputable def rnL (g : Value → Option Value) : List Value → Option (List Value)
  | [] => some []
  | v :: l => match g v, rnL g l with
    | some u, some r => some (u :: r)
    | _, _ => none
noncomputable def rnS (nm : Nat → Option Nat) : Value → Option Value
  | .pointer (some ⟨b, o, none⟩) => (match nm b with | some u => some (.pointer (some ⟨u, o, none⟩)) | none => none)
  | .slice (some ⟨b, o, none⟩) l c => (match nm b with | some u => some (.slice (some ⟨u, o, none⟩) l c) | none => none)
  | .map (some b) => (match nm b with | some u => some (.map (some u)) | none => none)
  | v => if scalar v then some v else none
noncomputable def rnN (nm : Nat → Option Nat) (g : Value → Option Value) : Value → Option Value
  | .agg a => (match rnL g a.toList with | some r => some (.agg ⟨r⟩) | none => none)
  | .tuple a => (match rnL g a.toList with | some r => some (.tuple ⟨r⟩) | none => none)
  | .func (.func f) a b => (match rnL g a.toList, rnL g b.toList with | some r, some s => some (.func (.func f) ⟨r⟩ ⟨s⟩) | _, _ => none)
  | .iface t v => (match g v with | some u => some (.iface t u) | none => none)
  | v => rnS nm v
noncomputable def rnV (nm : Nat → Option Nat) : Value → Option Value := rnN nm (rnN nm (rnS nm))

section
variable {nm : Nat → Option Nat} {E E' : Env} (hnm : ∀ b u, nm b = some u → ∀ x, E b = some x → E' u = some x)
theorem rnL_ok {g : Value → Option Value} (hg : ∀ {v v' u : Value}, VR E v v' → g v = some u → VR E' u v') : ∀ {l l' r : List Value}, VRs E l l' → rnL g l = some r → VRs E' r l' := by
  intro l
  induction l with
  | nil => intro l' r h hr; cases h; cases hr; exact .nil
  | cons v l ih =>
    intro l' r h hr
    cases h with
    | cons h1 h2 =>
      simp only [rnL] at hr
      split at hr
      · rename_i u r' hu hr'
        cases hr
        exact .cons (hg h1 hu) (ih h2 hr')
      · cases hr
include hnm in
theorem rnS_ok {v v' u : Value} (h : VR E v v') (hu : rnS nm v = some u) : VR E' u v' := by
  unfold rnS at hu
  split at hu
  · split at hu
    · rename_i hm
      cases hu
      cases h with
      | sc hs => simp [scalar] at hs
      | ptr _ hb => exact .ptr _ (hnm _ _ hm _ hb)
    · cases hu
  · split at hu
    · rename_i hm
      cases hu
      cases h with
      | sc hs => simp [scalar] at hs
      | sl _ _ _ hb => exact .sl _ _ _ (hnm _ _ hm _ hb)
    · cases hu
  · split at hu
    · rename_i hm
      cases hu
      cases h with
      | sc hs => simp [scalar] at hs
      | map hb => exact .map (hnm _ _ hm _ hb)
    · cases hu
  · split at hu
    · rename_i hs
      cases hu
      rw [h.scalar_eq hs]
      exact .sc hs
    · cases hu
include hnm in
theorem rnN_ok {g : Value → Option Value} (hg : ∀ {v v' u : Value}, VR E v v' → g v = some u → VR E' u v') {v v' u : Value} (h : VR E v v') (hu : rnN nm g v = some u) : VR E' u v' := by
  unfold rnN at hu
  split at hu
  · split at hu
    · rename_i r hr
      cases hu
      cases h with
      | sc hs => simp [scalar] at hs
      | agg h1 => exact .agg (rnL_ok hg h1 hr)
    · cases hu
  · split at hu
    · rename_i r hr
      cases hu
      cases h with
      | sc hs => simp [scalar] at hs
      | tuple h1 => exact .tuple (rnL_ok hg h1 hr)
    · cases hu
  · split at hu
    · rename_i r s hr hs
      cases hu
      cases h with
      | sc hs => simp [scalar] at hs
      | func hf h1 h2 =>
        cases hf
        exact .func (.func _) (rnL_ok hg h1 hr) (rnL_ok hg h2 hs)
    · cases hu
  · split at hu
    · rename_i r hr
      cases hu
      cases h with
      | sc hs => simp [scalar] at hs
      | iface _ h1 => exact .iface _ (hg h1 hr)
    · cases hu
  · exact rnS_ok hnm h hu
include hnm in
theorem rnV_ok {v v' u : Value} (h : VR E v v') (hu : rnV nm v = some u) : VR E' u v' :=
  rnN_ok hnm (fun h1 hu1 => rnN_ok hnm (fun h2 hu2 => rnS_ok hnm h2 hu2) h1 hu1) h hu
end

noncomputable def ptS : Value → List Nat
  | .pointer (some ⟨b, _, _⟩) => [b]
  | .slice (some ⟨b, _, _⟩) _ _ => [b]
  | .map (some b) => [b]
  | _ => []
noncomputable def ptL (g : Value → List Nat) : List Value → List Nat
  | [] => []
  | v :: l => lapp (g v) (ptL g l)
noncomputable def ptN (g : Value → List Nat) : Value → List Nat
  | .agg a => ptL g a.toList
  | .tuple a => ptL g a.toList
  | .func _ a b => lapp (ptL g a.toList) (ptL g b.toList)
  | .iface _ v => g v
  | v => ptS v
noncomputable def ptV : Value → List Nat := ptN (ptN ptS)
noncomputable def memA (b : Nat) : List Nat → Bool
  | [] => false
  | k :: ks => match Nat.beq k b with
    | true => true
    | false => memA b ks
theorem memA_ok {b : Nat} : ∀ {ks : List Nat}, memA b ks = false → b ∉ ks := by
  intro ks
  induction ks with
  | nil => intro _ h; simp at h
  | cons k ks ih =>
    intro h hm
    simp only [memA] at h
    split at h
    · cases h
    · rename_i hb
      rcases List.mem_cons.1 hm with rfl | hm
      · rw [Nat.beq_refl] at hb; cases hb
      · exact ih h hm
/-- what can be reached, at most so many looks -/
noncomputable def reachA (S2 : St) (n : Nat) : Nat → List Nat → List Nat → Option (List Nat)
  | 0, _, _ => none
  | _ + 1, [], ks => some ks
  | m + 1, b :: todo, ks =>
    match Nat.blt b n with
    | true => reachA S2 n m todo ks
    | false => match memA b ks with
      | true => reachA S2 n m todo ks
      | false => match S2.get b with
        | some (.cells cs _ _) => reachA S2 n m (lapp (ptL ptV cs) todo) (lapp ks [b])
        | _ => none
theorem reachA_ok {S2 : St} {n : Nat} : ∀ {m : Nat} {todo ks r : List Nat}, reachA S2 n m todo ks = some r → (∀ k ∈ ks, n ≤ k) → ks.Nodup → (∀ k ∈ r, n ≤ k) ∧ r.Nodup := by
  intro m
  induction m with
  | zero => intro todo ks r h; cases h
  | succ m ih =>
    intro todo ks r h h1 h2
    cases todo with
    | nil => cases h; exact ⟨h1, h2⟩
    | cons b todo =>
      simp only [reachA] at h
      split at h
      · exact ih h h1 h2
      · rename_i hb
        have hb' : n ≤ b := by
          rcases Nat.lt_or_ge b n with hlt | hge
          · have : Nat.blt b n = true := by simpa [Nat.blt_eq] using hlt
            rw [this] at hb; cases hb
          · exact hge
        split at h
        · exact ih h h1 h2
        · rename_i hm
          have hm := memA_ok hm
          split at h
          · refine ih h ?_ ?_
            · intro k hk
              rw [lapp_eq] at hk
              rcases List.mem_append.1 hk with hk | hk
              · exact h1 k hk
              · rw [List.mem_singleton.1 hk]; exact hb'
            · rw [lapp_eq]
              refine List.nodup_append.2 ⟨h2, by simp, ?_⟩
              intro x hx y hy e
              rw [List.mem_singleton.1 hy] at e
              exact hm (e ▸ hx)
          · cases h
noncomputable def rnO (S2 : St) (nm : Nat → Option Nat) : List Nat → Option (List AObj)
  | [] => some []
  | k :: ks => match S2.get k with
    | some (.cells cs t g) => (match rnL (rnV nm) cs, rnO S2 nm ks with
      | some us, some r => some (.cells us t g :: r)
      | _, _ => none)
    | _ => none
theorem rnO_ok {S2 : St} {nm : Nat → Option Nat} : ∀ {ks : List Nat} {r : List AObj}, rnO S2 nm ks = some r → r.length = ks.length ∧
    ∀ (j k : Nat), ks[j]? = some k → ∃ cs t g us, S2.get k = some (AObj.cells cs t g) ∧ rnL (rnV nm) cs = some us ∧ r[j]? = some (AObj.cells us t g) := by
  intro ks
  induction ks with
  | nil => intro r h; cases h; exact ⟨rfl, fun j k h => by simp at h⟩
  | cons k ks ih =>
    intro r h
    simp only [rnO] at h
    split at h
    · rename_i cs t g hg
      split at h
      · rename_i us r' hu hr'
        cases h
        obtain ⟨i1, i2⟩ := ih hr'
        refine ⟨by simp [i1], ?_⟩
        intro j q hq
        cases j with
        | zero =>
          simp only [List.getElem?_cons_zero, Option.some.injEq] at hq
          subst hq
          exact ⟨cs, t, g, us, hg, hu, rfl⟩
        | succ j =>
          rw [List.getElem?_cons_succ] at hq
          obtain ⟨a, b, c, d, e1, e2, e3⟩ := i2 j q hq
          exact ⟨a, b, c, d, e1, e2, by simpa using e3⟩
      · cases h
    · cases h
noncomputable def pushesA (S : St) : List AObj → St
  | [] => S
  | o :: l => pushesA (S.push o) l
theorem pushesA_n : ∀ (l : List AObj) (S : St), (pushesA S l).n = S.n + l.length := by
  intro l
  induction l with
  | nil => intro S; rfl
  | cons o l ih => intro S; simp only [pushesA, ih, List.length_cons]; show S.n + 1 + l.length = _; omega
theorem pushesA_mono : ∀ (l : List AObj) (S : St), (pushesA S l).mono = S.mono := by
  intro l
  induction l with
  | nil => intro S; rfl
  | cons o l ih => intro S; exact (ih _).trans rfl
theorem pushesA_low : ∀ (l : List AObj) (S : St), (pushesA S l).low = S.low := by
  intro l
  induction l with
  | nil => intro S; rfl
  | cons o l ih => intro S; simp only [pushesA, ih]; rfl
theorem pushesA_len : ∀ (l : List AObj) {S : St}, S.ok → (pushesA S l).ok := by
  intro l
  induction l with
  | nil => intro S h; exact h
  | cons o l ih => intro S h; exact ih (St.ok_push h o)
theorem pushesA_old : ∀ (l : List AObj) (S : St) {i : Nat}, i < S.n → (pushesA S l).get i = S.get i := by
  intro l
  induction l with
  | nil => intro S i _; rfl
  | cons o l ih =>
    intro S i hi
    simp only [pushesA]
    rw [ih (S.push o) (show i < S.n + 1 by omega), St.get_push_old o hi]
theorem pushesA_new : ∀ (l : List AObj) (S : St) {j : Nat}, j < l.length → (pushesA S l).get (S.n + j) = l[j]? := by
  intro l
  induction l with
  | nil => intro S j hj; simp at hj
  | cons o l ih =>
    intro S j hj
    simp only [pushesA]
    cases j with
    | zero =>
      rw [pushesA_old l (S.push o) (show S.n + 0 < S.n + 1 by omega)]
      exact St.get_push_new S o
    | succ j =>
      have := ih (S.push o) (j := j) (by simpa using hj)
      rw [show S.n + (j + 1) = (S.push o).n + j by show _ = S.n + 1 + j; omega, this, List.getElem?_cons_succ]

noncomputable def gcA (S S2 : St) (v : Value) : Option (Value × List AObj) :=
  match reachA S2 S.n 100000 (ptV v) [] with
  | some ks => (match rnV (nmA S.n ks) v, rnO S2 (nmA S.n ks) ks with
    | some u, some news => some (u, news)
    | _, _ => none)
  | none => none

theorem gc_ok {w0 : Base} {E E2 : Env} {S S2 : St} {w w2 : World} {v v' u : Value} {news : List AObj} (hS : SR w0 E S w) (hS2 : SR w0 E2 S2 w2) (hE : E.le E2) (hsame : ∀ i, i < S.n → S2.get i = S.get i)
    (hsz : w.heap.size ≤ w2.heap.size) (hmo : S2.mono = S.mono) (h : gcA S S2 v = some (u, news)) (hv : VR E2 v v') :
    ∃ E3, E.le E3 ∧ SR w0 E3 (pushesA S news) w2 ∧ VR E3 u v' ∧ Keeps S (pushesA S news) := by
  unfold gcA at h
  split at h
  case h_2 => cases h
  case h_1 ks hks =>
    split at h
    case h_2 => cases h
    case h_1 u' news' hu hnews =>
      cases h
      obtain ⟨r1, r2⟩ := reachA_ok hks (by simp) List.nodup_nil
      obtain ⟨o1, o2⟩ := rnO_ok hnews
      have hdrop := hS.drop hS2 hE hsame hsz (fun g => hmo.trans g)
      let E3 : Env := fun i => if i < S.n then E2 i else match ks[i - S.n]? with | some k => E2 k | none => none
      have hold : ∀ i, i < S.n → E3 i = E2 i := fun i hi => if_pos hi
      have hnew : ∀ j k, ks[j]? = some k → E3 (S.n + j) = E2 k := by
        intro j k hj
        show (if S.n + j < S.n then E2 (S.n + j) else match ks[S.n + j - S.n]? with | some k => E2 k | none => none) = E2 k
        rw [if_neg (by omega), show S.n + j - S.n = j by omega, hj]
      have hle : E.le E3 := by
        intro i x hx
        have hi : i < S.n := by
          rcases Nat.lt_or_ge i S.n with hlt | hge
          · exact hlt
          · rw [hS.dom i hge] at hx; cases hx
        rw [hold i hi]
        exact hE i x hx
      have hnm : ∀ b u, nmA S.n ks b = some u → ∀ x, E2 b = some x → E3 u = some x := by
        intro b u hb x hx
        unfold nmA at hb
        split at hb
        · rename_i hlt
          cases hb
          rw [hold b (by simpa [Nat.blt_eq] using hlt)]
          exact hx
        · obtain ⟨i, rfl, hi⟩ := idxA_ok hb
          rw [hnew i b hi]
          exact hx
      have hlen : news.length = ks.length := o1
      have hget : ∀ i o, (pushesA S news).get i = some o → (i < S.n ∧ S.get i = some o) ∨ ∃ j k cs t g us, i = S.n + j ∧ ks[j]? = some k ∧ S2.get k = some (.cells cs t g) ∧ rnL (rnV (nmA S.n ks)) cs = some us ∧ o = .cells us t g := by
        intro i o hi
        have hlt := St.get_lt hi
        rw [pushesA_n] at hlt
        rcases Nat.lt_or_ge i S.n with h1 | h1
        · rw [pushesA_old _ _ h1] at hi
          exact .inl ⟨h1, hi⟩
        · obtain ⟨j, rfl⟩ : ∃ j, i = S.n + j := ⟨i - S.n, by omega⟩
          rw [pushesA_new _ _ (by omega)] at hi
          have hj : ks[j]? = some (ks[j]'(by omega)) := List.getElem?_eq_getElem (by omega)
          obtain ⟨cs, t, g, us, e1, e2, e3⟩ := o2 j _ hj
          rw [hi] at e3
          cases e3
          exact .inr ⟨j, _, cs, t, g, us, rfl, hj, e1, e2, rfl⟩
      refine ⟨E3, hle, ?_, rnV_ok hnm hv hu, ⟨by rw [pushesA_n]; omega, by rw [pushesA_low]; exact Nat.le_refl _, fun i _ hi => pushesA_old _ _ hi⟩⟩
      refine ⟨pushesA_len _ hS.len, ?_, ?_, ?_, ?_, ?_, hS2.below, ?_, fun g => hS2.mono (by rw [pushesA_mono] at g; exact hmo.trans g)⟩
      · intro i o hi hno
        rcases hget i o hi with ⟨h1, h2⟩ | ⟨j, k, cs, t, g, us, rfl, hk, e1, e2, rfl⟩
        · exact (hdrop.obj i o h2 hno).keep hle fun _ _ _ => rfl
        · have hk2 := hS2.obj k _ e1 (fun hh => by
            have := (hS.hole k hh).1
            have := r1 k (List.mem_of_getElem? hk)
            omega)
          obtain ⟨b, κ, cs', pad, p1, p2, p3, p4, p5⟩ := hk2
          have hrr := rnL_ok (fun h1 h2 => rnV_ok hnm h1 h2) p3 e2
          refine ⟨b, κ, cs', pad, by rw [hnew j k hk]; exact p1, p2, hrr, p4, ?_⟩
          intro hg
          have := p5 hg
          rw [hrr.length, ← p3.length]
          exact this
      · intro i hi
        obtain ⟨h1, h2⟩ := hS.hole i hi
        refine ⟨by rw [pushesA_n]; omega, ?_⟩
        rw [hold i h1]
        exact (hS2.hole i hi).2
      · intro i hi
        rw [pushesA_n] at hi
        show (if i < S.n then E2 i else match ks[i - S.n]? with | some k => E2 k | none => none) = none
        rw [if_neg (by omega), List.getElem?_eq_none (by omega)]
      · intro i j oi oj b κ κ' hi hai hj haj g1 g2
        rcases hget i oi hi with ⟨h1, h2⟩ | ⟨p, k, cs, t, g, us, rfl, hk, e1, e2, rfl⟩
        · rw [hold i h1] at g1
          rw [← hsame i h1] at h2
          rcases hget j oj hj with ⟨h3, h4⟩ | ⟨q, k', cs', t', g', us', rfl, hk', e1', e2', rfl⟩
          · rw [hold j h3] at g2
            rw [← hsame j h3] at h4
            exact hS2.inj i j oi oj b κ κ' h2 hai h4 haj g1 g2
          · rw [hnew q k' hk'] at g2
            have := hS2.inj i k' oi _ b κ κ' h2 hai e1' rfl g1 g2
            have := r1 k' (List.mem_of_getElem? hk')
            omega
        · rw [hnew p k hk] at g1
          rcases hget j oj hj with ⟨h3, h4⟩ | ⟨q, k', cs', t', g', us', rfl, hk', e1', e2', rfl⟩
          · rw [hold j h3] at g2
            rw [← hsame j h3] at h4
            have := hS2.inj k j _ oj b κ κ' e1 rfl h4 haj g1 g2
            have := r1 k (List.mem_of_getElem? hk)
            omega
          · rw [hnew q k' hk'] at g2
            have hkk := hS2.inj k k' _ _ b κ κ' e1 rfl e1' rfl g1 g2
            subst hkk
            have hp : p < ks.length := by
              rcases Nat.lt_or_ge p ks.length with hlt | hge
              · exact hlt
              · rw [List.getElem?_eq_none hge] at hk; cases hk
            have := (List.getElem?_inj hp r2).1 (hk.trans hk'.symm)
            omega
      · intro i b κ hb
        have hb' : (if i < S.n then E2 i else match ks[i - S.n]? with | some k => E2 k | none => none) = some (b, κ) := hb
        split at hb'
        · exact hS2.rng _ _ _ hb'
        · split at hb'
          · exact hS2.rng _ _ _ hb'
          · cases hb'
      · intro i oi b κ hi hai g1
        rcases hget i oi hi with ⟨h1, h2⟩ | ⟨p, k, cs, t, g, us, rfl, hk, e1, e2, rfl⟩
        · rw [hold i h1] at g1
          rw [← hsame i h1] at h2
          exact hS2.new i oi b κ h2 hai g1
        · rw [hnew p k hk] at g1
          exact hS2.new k _ b κ e1 rfl g1
end Go.Ax
end
/- part AxW -/
section
/- The abstract run of code and of calls, and what it says of the model. -/
namespace Go.Ax
open Go.RowKit

noncomputable def rangeF (G : Fns) (ro : Option Nat) (f : Operand) (ps : Array Tmp) (asg bd : Code) (ts : List Value) (ds : List Nat) (S : St) : Option (List Res) :=
  match evalA ts f with
  | some (.func (.func g) xs ys) =>
    match (match ro with
      | none => some (S.push (.defd true), S.n, S.n :: ds)
      | some l => (match S.get l with
        | some (.loop _ _ _ _ _ _ df) => some (S, df, ds)
        | _ => none)) with
    | some (S1, df, ds1) =>
      bindL (G.call g (xs.toList ++ [.func (.yield S1.n) #[] #[]] ++ ys.toList) (S1.push (.loop .ready none ts ps asg bd df))) fun r =>
        match (r.2.getD (S1.push (.loop .ready none ts ps asg bd df))).get S1.n with
        | some (.loop st pd tm ps2 as2 bd2 df2) =>
          if st = .busy then none
          else match pd with
            | none => some [{ e := .normal, ts := ts, ds := ds1, S := (r.2.getD (S1.push (.loop .ready none ts ps asg bd df))).set S1.n (.loop .exhausted pd tm ps2 as2 bd2 df2) }]
            | some c => G.code ro c ts ds1 ((r.2.getD (S1.push (.loop .ready none ts ps asg bd df))).set S1.n (.loop .exhausted pd tm ps2 as2 bd2 df2))
        | _ => none
    | none => none
  | _ => none

noncomputable def loopF (run : List Value → List Nat → St → Option (List Res)) : Nat → List Value → List Nat → St → Option (List Res)
  | 0, _, _, _ => none
  | m + 1, ts, ds, S => bindL (run ts ds S) fun r => match r.e with
    | .normal => loopF run m r.ts r.ds r.S
    | .exit id => some [{ r with e := .exit id }]
    | .ret => some [{ r with e := .ret }]
noncomputable def codeF (G : Fns) (P : Program) (T : Tab) (ro : Option Nat) : Code → List Value → List Nat → St → Option (List Res)
  | .skip, ts, ds, S => some [{ e := .normal, ts, ds, S }]
  | .label _, ts, ds, S => some [{ e := .normal, ts, ds, S }]
  | .ret, ts, ds, S => some [{ e := .ret, ts, ds, S }]
  | .exit id, ts, ds, S => some [{ e := .exit id, ts, ds, S }]
  | .seq a b, ts, ds, S => bindL (codeF G P T ro a ts ds S) fun r => match r.e with
    | .normal => codeF G P T ro b r.ts r.ds r.S
    | .exit id => some [{ r with e := .exit id }]
    | .ret => some [{ r with e := .ret }]
  | .cond c a b, ts, ds, S => match evalA ts c with
    | some (.bool true) => codeF G P T ro a ts ds S
    | some (.bool false) => codeF G P T ro b ts ds S
    | _ => none
  | .block id c, ts, ds, S => bindL (codeF G P T ro c ts ds S) fun r => match r.e with
    | .normal => some [{ r with e := .normal }]
    | .exit id' => if id' = id then some [{ r with e := .normal }] else some [{ r with e := .exit id' }]
    | .ret => some [{ r with e := .ret }]
  | .scope c, ts, ds, S => codeF G P T ro c ts ds S
  | .loop c, ts, ds, S => loopF (codeF G P T ro c) 1000000 ts ds S
  | .region _ ops draw, ts, ds, S =>
    if draw then (drawA G P T ops ts S).map (·.map fun r => { e := .normal, ts := r.1, ds, S := r.2 })
    else (execOps G P T ops (List.range ops.size) ts S).map (·.map fun r => { e := .normal, ts := r.1, ds, S := r.2 })
  | .rangeFunc f ps asg bd, ts, ds, S => rangeF G ro f ps asg bd ts ds S
  | _, _, _, _ => none

noncomputable def closeA : List Nat → St → Option St
  | [], S => some S
  | d :: ds, S => match S.get d with
    | some (.defd true) => closeA ds (S.set d (.defd false))
    | _ => none
noncomputable def resA (T : Tab) (S : St) (ts : List Value) : List ResultVar → Option (List Value)
  | [] => some []
  | .tmp t :: l => match resA T S ts l with
    | some vs => some (ts.getD t undef :: vs)
    | none => none
  | .cell a t :: l => match loadA T S t (ts.getD a undef), resA T S ts l with
    | some v, some vs => some (v :: vs)
    | _, _ => none
noncomputable def tupA : List Value → Value
  | [v] => v
  | vs => .tuple vs.toArray
/-- what a call comes to: a value with new objects behind it, or a value and a whole store -/
inductive Fin where
  | keep (v : Value) (news : List AObj)
  | raw (v : Value) (S : St)
noncomputable def finA (S : St) (v : Value) (S' : St) : Fin :=
  match Nat.ble S.n S'.low && (S'.mono == S.mono) with
  | true => (match gcA S S' v with
    | some (u, news) => .keep u news
    | none => .raw v { S' with low := S.low })
  | false => .raw v { S' with low := if S.low < S'.low then S.low else S'.low }
noncomputable def outF (S : St) : Fin → Value × Option St
  | .keep v [] => (v, none)
  | .keep v (o :: l) => (v, some (pushesA S (o :: l)))
  | .raw v s => (v, some s)
noncomputable def eqO : AObj → AObj → Bool
  | .cells cs t g, .cells ds u h => decide (t = u) && decide (g = h) && eqLs eqV cs ds
  | _, _ => false
theorem eqO_ok {x y : AObj} (h : eqO x y = true) : x = y := by
  unfold eqO at h
  split at h
  · simp only [Bool.and_eq_true, decide_eq_true_eq] at h
    rw [h.1.1, h.1.2, eqLs_ok (fun h => eqV_ok h) h.2]
  · cases h
noncomputable def eqOs : List AObj → List AObj → Bool
  | [], [] => true
  | x :: xs, y :: ys => eqO x y && eqOs xs ys
  | _, _ => false
theorem eqOs_ok : ∀ {xs ys : List AObj}, eqOs xs ys = true → xs = ys := by
  intro xs
  induction xs with
  | nil => intro ys h; cases ys <;> first | rfl | cases h
  | cons x xs ih =>
    intro ys h
    cases ys with
    | nil => cases h
    | cons y ys => simp only [eqOs, Bool.and_eq_true] at h; rw [eqO_ok h.1, ih h.2]
noncomputable def eqF : Fin → Fin → Bool
  | .keep v l, .keep u k => eqV v u && eqOs l k
  | _, _ => false
theorem eqF_ok {x y : Fin} (h : eqF x y = true) : x = y := by
  unfold eqF at h
  split at h
  · rw [Bool.and_eq_true] at h
    rw [eqV_ok h.1, eqOs_ok h.2]
  · cases h
noncomputable def dedupL : List Fin → List Fin
  | [] => []
  | x :: l => match l.any (eqF x) with
    | true => dedupL l
    | false => x :: dedupL l
noncomputable def callF (G : Fns) (T : Tab) (f : FuncId) (args : List Value) (S : St) : Option (List (Value × Option St)) :=
  match T.fn f with
  | some fn => match fn.body with
    | some c =>
      (bindL (G.code none c (lapp args (lrep (fn.ntmps - args.length) undef)) [] { S with low := S.n }) fun r =>
        match r.e with
        | .exit _ => none
        | _ => match closeA r.ds r.S with
          | some S2 => match resA T S2 r.ts fn.results.toList with
            | some vs => some [finA S (tupA vs) S2]
            | none => none
          | none => none).map fun l => (dedupL l).map (outF S)
    | none => none
  | none => none
/-- calls whose outcome is known -/
abbrev Known := FuncId → List Value → St → Option (List (Value × Option St))
noncomputable def stepF (P : Program) (T : Tab) (X : Known) (G : Fns) : Fns where
  call := fun f args S => match X f args S with
    | some l => some l
    | none => callF G T f args S
  code := codeF G P T
noncomputable def iter (P : Program) (T : Tab) (X : Known) : Nat → Fns
  | 0 => { call := fun _ _ _ => none, code := fun _ _ _ _ _ => none }
  | n + 1 => stepF P T X (iter P T X n)
noncomputable def noX : Known := fun _ _ _ => none
noncomputable def orX (X Y : Known) : Known := fun f args S => match X f args S with
  | some l => some l
  | none => Y f args S

theorem dedupL_mem : ∀ (l : List Fin), ∀ r ∈ l, r ∈ dedupL l := by
  intro l
  induction l with
  | nil => intro r hr; simp at hr
  | cons x l ih =>
    intro r hr
    simp only [dedupL]
    split
    · rename_i hany
      rcases List.mem_cons.1 hr with rfl | hr
      · obtain ⟨q, hq, hb⟩ := List.any_eq_true.1 hany
        rw [eqF_ok hb]
        exact ih _ hq
      · exact ih r hr
    · rcases List.mem_cons.1 hr with rfl | hr
      · simp
      · exact List.mem_cons_of_mem _ (ih r hr)

section
variable {P : Program} {T : Tab} (hT : TabOK P T) {G : Fns} (hG : OK P G) {w0 : Base}

theorem wpIn_scope {F : Fence} {n : Nat} {Q : Exit → Act → World → Prop} {a : Act} {w : World} {c : Code} (h : c.wpIn F n P (fun e a w => (∀ l, e ≠ .goto l) ∧ Q e a w) a w) : (Code.scope c).wpIn F n P Q a w := by
  intro b k cs hro hb hr
  obtain ⟨e, a₁, w₁, ⟨hng, hq⟩, harr⟩ := h b (.inScope c :: k) cs hro hb hr
  have s1 : StepsIn (Machine.fenced P F) P (lone (b.atR a (.code (.scope c) :: k)) cs w) (lone (b.atR a (.code c :: .inScope c :: k)) cs w) :=
    .one (fenced_calm hb hr rfl) (step_lone_go (by simp [stepG, stepG.exec, Frame.atR]))
  have hex : ∀ id, exitTo id (.inScope c :: k) = exitTo id k := fun id => rfl
  cases e with
  | normal =>
    have s2 : StepsIn (Machine.fenced P F) P (lone (b.atR a₁ (.inScope c :: k)) cs w₁) (lone (b.atR a₁ k) cs w₁) :=
      .one (fenced_calm hb hr rfl) (step_lone_go (by simp [stepG, stepG.exec, Frame.atR]))
    exact ⟨.normal, a₁, w₁, hq, s1.trans (StepsIn.trans harr s2)⟩
  | exit id => exact ⟨.exit id, a₁, w₁, hq, fun k' hk => s1.trans (harr.1 k' (by rw [hex]; exact hk)), fun hr' hk => let ⟨k₁, g1, g2⟩ := harr.2 hr' (by rw [hex]; exact hk); ⟨k₁, g1, s1.trans g2⟩⟩
  | goto l => exact absurd rfl (hng l)
  | ret => exact ⟨.ret, a₁, w₁, hq, .of_steps s1 harr⟩
  | panic ch => exact ⟨.panic ch, a₁, w₁, hq, .of_steps s1 harr⟩
  | outgrown => exact ⟨.outgrown, a₁, w₁, hq, .of_steps (b := b) (k := k) (cs := cs) (e := .outgrown) s1 harr⟩

include hT hG in
theorem drawP_ok {ops : Array Oper} {id : Nat} {ts : List Value} {S S1 Sf : St} {tf : List Value} {hs : List (Option Nat)} {R : List Ent} {E : Env} {w : World} {a : Act} {ro' : Option Nat} {n : Nat} {Q : Exit → Act → World → Prop}
    (hpre : pre T ops.toList S = some (S1, hs)) (hc : canon G P T hs ops 0 ops.toList ts S1 = some (R, tf, Sf)) (hchk : DrawP G P T hs ops ts R Sf) (hS : SR w0 E S w) (ht : VRs E ts a.tmps.toList)
    (hQ : ∀ E' a' w', E.le E' → SR w0 E' Sf w' → VRs E' tf a'.tmps.toList → a'.defers = a.defers → Keeps S Sf → w.heap.size ≤ w'.heap.size → Q .normal a' w') :
    (Code.region id ops true).wpIn (fence ro') n P Q a w := by
  have hC := cn_of hc
  obtain ⟨p1, p2, p3, p4, p5, p6⟩ := pre_spec hpre
  have hpend : SR (Pend hs w0 []) E S1 w := by
    refine (p3 hS).holes fun j => or_congr_right ⟨fun h => ?_, ?_⟩
    · obtain ⟨i, hi⟩ := p5 j h.1 h.2
      exact ⟨i, by simp, hi⟩
    · rintro ⟨i, _, hi⟩
      obtain ⟨h1, h2, _⟩ := p4 i j hi
      exact ⟨h1, h2⟩
  refine wpIn_region_any hT.mixed ?_
  have hal : ∀ {i : Nat} {o : Oper}, ops[i]? = some o → ∀ j, hs.getD i none = some j → ∃ t, allocOf o.op = some t := by
    intro i o ho j hj
    obtain ⟨h1, h2, o', t, h3, h4⟩ := p4 i j hj
    have h3 : ops[i]? = some o' := by simpa using h3
    rw [ho] at h3
    cases h3
    exact ⟨t, h4⟩
  refine any_ok hT hG (fun {i o e} ho he => chk_of hchk ho he (by
    obtain ⟨e', he', h1, _⟩ := hC.ent i o ho
    rw [he] at he'
    cases he'
    exact h1) (hal ho)) hC (w0 := w0) ?_ p6 (E0 := E) (a0 := a) (wb := w) (fun E' a' w' h1 h2 h3 h4 h5 h6 => hQ E' a' w' h1 h2 h3 h4 (p2.trans h5) h6) ops.size [] _ ts 0 E a w.drew ?_ (.refl E) (by rw [hC.s0]; exact hpend.drew) ht rfl (by rw [hC.s0]; exact .refl S1) (Nat.le_refl _)
  · intro i j hij
    obtain ⟨h1, h2, o, t, h3, h4⟩ := p4 i j hij
    refine ⟨fun hh => ?_, o, t, by simpa using h3, h4⟩
    have := (hS.hole j hh).1
    omega
  refine ⟨by simp, List.nodup_nil, by simp, by simp, ?_, ?_, by intro i hi; simp at hi, rfl, by intro d o e t hd; simp at hd, fun _ _ => rfl, Nat.zero_le _, .inl rfl, by intro x _ _; simp⟩
  · intro i hi
    rw [Array.getD_eq_getD_getElem?, Array.getElem?_replicate, if_pos hi]
    simp
  · intro i hi
    rw [Array.getD_eq_getD_getElem?, Array.getElem?_replicate] at hi
    split at hi <;> simp at hi
include hT hG in
theorem drawA_ok {ops : Array Oper} {id : Nat} {ts : List Value} {S : St} {E : Env} {w : World} {a : Act} {outs : List (List Value × St)} {ro' : Option Nat} {n : Nat} {Q : Exit → Act → World → Prop} (h : drawA G P T ops ts S = some outs) (hS : SR w0 E S w) (ht : VRs E ts a.tmps.toList)
    (hQ : ∀ r ∈ outs, ∀ E' a' w', E.le E' → SR w0 E' r.2 w' → VRs E' r.1 a'.tmps.toList → a'.defers = a.defers → Keeps S r.2 → w.heap.size ≤ w'.heap.size → Q .normal a' w') :
    (Code.region id ops true).wpIn (fence ro') n P Q a w := by
  unfold drawA at h
  split at h
  case h_2 => cases h
  case h_1 S1 hs hpre =>
  split at h
  case h_2 => cases h
  case h_1 R tf Sf hc =>
    split at h
    case isFalse => cases h
    case isTrue hchk =>
      cases h
      exact drawP_ok hT hG hpre hc (drawP_of hchk) hS ht (fun E' a' w' h1 h2 h3 h4 h5 h6 => hQ (tf, Sf) (by simp) E' a' w' h1 h2 h3 h4 h5 h6)
end
end Go.Ax
end
/- part AxX -/
section
/- The abstract run of code and of calls: that it is right. -/
namespace Go.Ax
open Go.RowKit

section
variable {P : Program} {T : Tab} (hT : TabOK P T) {G : Fns} (hG : OK P G) {w0 : Base}

theorem le_putB {w : World} {b : Nat} {o : Obj} : w.heap.size ≤ (putB w b o).heap.size := by rw [putB_size]; exact Nat.le_refl _

include hG in
theorem rangeF_ok {ro ro' : Option Nat} {f : Operand} {ps : Array Tmp} {asg bd : Code} {ts : List Value} {ds : List Nat} {S : St} {outs : List Res} {E : Env} {w : World} {a : Act} {n : Nat} {Q : Exit → Act → World → Prop}
    (h : rangeF G ro f ps asg bd ts ds S = some outs) (hro : RoR E ro ro') (hS : SR w0 E S w) (ht : VRs E ts a.tmps.toList) (hd : DsR E ds a.defers)
    (hQ : ∀ r ∈ outs, ∀ E' a' w', E.le E' → SR w0 E' r.S w' → VRs E' r.ts a'.tmps.toList → DsR E' r.ds a'.defers → Keeps S r.S → w.heap.size ≤ w'.heap.size → Q r.e.to a' w') :
    (Code.rangeFunc f ps asg bd).wpIn (fence ro') n P Q a w := by
  unfold rangeF at h
  split at h
  case h_2 => cases h
  case h_1 g xs ys hf =>
    split at h
    case h_2 => cases h
    case h_1 S1 df ds1 hpre =>
      -- the block for the deferred calls
      have hpre' : ∃ E1 w1 mark db dκ, E.le E1 ∧ SR w0 E1 S1 w1 ∧ E1 df = some (db, dκ) ∧ DsR E1 ds1 (mark ++ a.defers) ∧ Keeps S S1 ∧ w.heap.size ≤ w1.heap.size ∧
          (∀ fn, (Instr.enterLoop fn a.tmps ps asg bd (fence ro').round).run P w = .ok (w1.heap.size, mark) (w1.alloc (.loop { state := .ready, pending := none, fn := fn, tmps := a.tmps, params := ps, assign := asg, body := bd, defers := db }))) := by
        cases hro with
        | none =>
          simp only [Option.some.injEq, Prod.mk.injEq] at hpre
          obtain ⟨rfl, rfl, rfl⟩ := hpre
          have hle := Env.upd_le (x := (w.heap.size, 0)) (hS.dom _ (Nat.le_refl _))
          refine ⟨E.upd S.n (w.heap.size, 0), w.alloc (.deferred (some [])), [{ target := .collected w.heap.size, args := #[] }], w.heap.size, 0, hle, hS.push _ _ _ ?_, Env.upd_same _ _ _, .cons (Env.upd_same _ _ _) (hd.mono hle), Keeps.push _ _, by rw [World.size_alloc]; omega, ?_⟩
          · intro w' hw'
            exact ⟨w.heap.size, 0, Env.upd_same _ _ _, by simpa using hw'⟩
          · intro fn
            simp [Instr.enterLoop, fence]
        | some hl =>
          rename_i l l' κ
          simp only at hpre
          split at hpre
          case h_2 => cases hpre
          case h_1 st pd tm ps2 as2 bd2 df2 hget =>
            simp only [Option.some.injEq, Prod.mk.injEq] at hpre
            obtain ⟨rfl, rfl, rfl⟩ := hpre
            obtain ⟨L, g1, g2, g3, g4, g5, g6, g7, dκ, g8⟩ := hS.loop hget hl
            refine ⟨E, w, [], L.defers, dκ, .refl E, hS, g8, hd, .refl S, Nat.le_refl _, ?_⟩
            intro fn
            simp [Instr.enterLoop, fence, run_getLoop g1]
      obtain ⟨E1, w1, mark, db, dκ, hE1, hS1, hdf, hds1, hk1, hz1, hent⟩ := hpre'
      obtain ⟨L0, hcallL, hall⟩ := bindL_mem h
      obtain ⟨⟨fn, c, k1, k2, k3⟩, hcall⟩ := hG.call hcallL
      have hfv := evalA_ok ht hf
      generalize hq : a.eval f = fv at hfv
      cases hfv with
      | sc hs => simp [scalar] at hs
      | func hfn hx hy =>
        rename_i xs xs' ys ys'
        cases hfn
        have hle2 := Env.upd_le (x := (w1.heap.size, 0)) (hS1.dom _ (Nat.le_refl _))
        refine wpIn_rangeFunc fun fn0 _ => ?_
        have hS2 : SR w0 (E1.upd S1.n (w1.heap.size, 0)) (S1.push (.loop .ready none ts ps asg bd df)) (w1.alloc (.loop { state := .ready, pending := none, fn := fn0, tmps := a.tmps, params := ps, assign := asg, body := bd, defers := db })) := by
          refine hS1.push _ _ _ ?_
          intro w' hw'
          exact ⟨w1.heap.size, 0, _, db, dκ, Env.upd_same _ _ _, hle2 _ _ hdf, hw', rfl, rfl, ht.mono (hE1.trans hle2), rfl, rfl, rfl, rfl⟩
        have hle : E.le (E1.upd S1.n (w1.heap.size, 0)) := hE1.trans hle2
        refine ⟨w1.heap.size, mark, _, { target := .fn (.func g) ⟨ys'⟩, args := (xs' ++ [Value.func (.yield w1.heap.size) #[] #[]]).toArray }, w1.alloc (.loop { state := .ready, pending := none, fn := fn0, tmps := a.tmps, params := ps, assign := asg, body := bd, defers := db }), g, (xs' ++ [Value.func (.yield w1.heap.size) #[] #[]] ++ ys').toArray, w1.alloc (.loop { state := .ready, pending := none, fn := fn0, tmps := a.tmps, params := ps, assign := asg, body := bd, defers := db }), hent fn0, ?_, fun _ _ => trivial, ?_, fun h => by simp [fence, Fence.wide] at h, ?_⟩
        · simp only [resolve, hq, Deferred.ofValue]
          simp [Act.eval]
        · have := run_callFunc (P := P) (w := w1.alloc (.loop { state := .ready, pending := none, fn := fn0, tmps := a.tmps, params := ps, assign := asg, body := bd, defers := db })) k1 k2 k3 (xs' ++ [Value.func (.yield w1.heap.size) #[] #[]] ++ ys').toArray
          simpa [invoke] using this
        · have hcl := hcall (w0 := w0) (n := n - 1) (R := rangePost (fence ro') n P w1.heap.size Q { a with defers := mark ++ a.defers }) hS2
            (((hx.mono hle).append (.cons (.func (.yield (Env.upd_same _ _ _)) .nil .nil) .nil)).append (hy.mono hle)) (by
              intro r hr E3 v3 w3 hE3 hS3 hv3 hk3 hz3
              obtain ⟨outs2, hr2, hsub⟩ := hall r hr
              split at hr2
              case h_2 => cases hr2
              case h_1 st pd tm ps2 as2 bd2 df2 hget =>
                split at hr2
                case isTrue => cases hr2
                case isFalse hbusy =>
                  have hl3 := hE3 _ _ (Env.upd_same E1 S1.n (w1.heap.size, 0))
                  obtain ⟨L, m1, m2, m3, m4, m5, m6, m7, dκ3, m8⟩ := hS3.loop hget hl3
                  have hS4 := put_loop (st' := .exhausted) (pd' := pd) hS3 hget hl3 m1 (L' := { L with state := .exhausted }) rfl m3 rfl rfl rfl rfl rfl
                  have hkk := ((hk1.trans (Keeps.push _ _)).trans hk3).trans (Keeps.set (St.get_lt hget) (.loop .exhausted pd tm ps2 as2 bd2 df2))
                  have hzz : w.heap.size ≤ (putB w3 w1.heap.size (.loop { L with state := .exhausted })).heap.size := by
                    rw [putB_size]; rw [World.size_alloc] at hz3; omega
                  have hEE := hle.trans hE3
                  have hdd : DsR E3 ds1 (mark ++ a.defers) := (hds1.mono hle2).mono hE3
                  refine ⟨L.pending, putB w3 w1.heap.size (.loop { L with state := .exhausted }), ?_, ?_⟩
                  · unfold Instr.endLoop
                    simp only [Sem.run_bind, run_getLoop m1, Result.andThen_ok]
                    have hnb : (L.state == .busy) = false := by rw [m2]; cases st <;> first | rfl | exact absurd rfl hbusy
                    rw [if_neg (by rw [hnb]; simp)]
                    simp only [Sem.run_bind]
                    rw [run_setObj m1 (by intro c t f h; cases h)]
                    simp
                  · generalize putB w3 w1.heap.size (.loop { L with state := .exhausted }) = W4 at hS4 hzz ⊢
                    rw [m3]
                    cases pd with
                    | none =>
                      simp only at hr2 ⊢
                      cases hr2
                      exact hQ { e := .normal, ts := ts, ds := ds1, S := (r.2.getD (S1.push (.loop .ready none ts ps asg bd df))).set S1.n (.loop .exhausted none tm ps2 as2 bd2 df2) } (hsub _ (List.mem_singleton.2 rfl)) E3 { a with defers := mark ++ a.defers } _ hEE hS4 (ht.mono hEE) hdd hkk hzz
                    | some cc =>
                      simp only at hr2 ⊢
                      refine hG.code hr2 (hro.mono hEE) hS4 (a := { a with defers := mark ++ a.defers }) (ht.mono hEE) hdd ?_
                      intro q hq' E5 a5 w5 hE5 hS5 ht5 hd5 hk5 hz5
                      exact hQ q (hsub q hq') E5 a5 w5 (hEE.trans hE5) hS5 ht5 hd5 (hkk.trans hk5) (Nat.le_trans hzz hz5))
          cases ro' with
          | none => exact hcl
          | some l => exact CallsIn.inRound l hcl

include hT hG in
theorem codeF_ok {ro ro' : Option Nat} : ∀ (c : Code) {ts : List Value} {ds : List Nat} {S : St} {outs : List Res} {E : Env} {w : World} {a : Act} {n : Nat} {Q : Exit → Act → World → Prop},
    codeF G P T ro c ts ds S = some outs → RoR E ro ro' → SR w0 E S w → VRs E ts a.tmps.toList → DsR E ds a.defers →
    (∀ r ∈ outs, ∀ E' a' w', E.le E' → SR w0 E' r.S w' → VRs E' r.ts a'.tmps.toList → DsR E' r.ds a'.defers → Keeps S r.S → w.heap.size ≤ w'.heap.size → Q r.e.to a' w') →
    c.wpIn (fence ro') n P Q a w := by
  intro c
  induction c with
  | skip =>
    intro ts ds S outs E w a n Q h hro hS ht hd hQ
    simp only [codeF, Option.some.injEq] at h
    subst h
    exact wpIn_skip (hQ { e := .normal, ts, ds, S } (by simp) E a w (.refl E) hS ht hd (.refl S) (Nat.le_refl _))
  | label l =>
    intro ts ds S outs E w a n Q h hro hS ht hd hQ
    simp only [codeF, Option.some.injEq] at h
    subst h
    exact wpIn_label (hQ { e := .normal, ts, ds, S } (by simp) E a w (.refl E) hS ht hd (.refl S) (Nat.le_refl _))
  | ret =>
    intro ts ds S outs E w a n Q h hro hS ht hd hQ
    simp only [codeF, Option.some.injEq] at h
    subst h
    exact wpIn_ret (hQ { e := .ret, ts, ds, S } (by simp) E a w (.refl E) hS ht hd (.refl S) (Nat.le_refl _))
  | exit id =>
    intro ts ds S outs E w a n Q h hro hS ht hd hQ
    simp only [codeF, Option.some.injEq] at h
    subst h
    exact wpIn_exit (hQ { e := .exit id, ts, ds, S } (by simp) E a w (.refl E) hS ht hd (.refl S) (Nat.le_refl _))
  | goto l =>
    intro ts ds S outs E w a n Q h hro hS ht hd hQ
    simp [codeF] at h
  | refuse why =>
    intro ts ds S outs E w a n Q h hro hS ht hd hQ
    simp [codeF] at h
  | seq x y ihx ihy =>
    intro ts ds S outs E w a n Q h hro hS ht hd hQ
    simp only [codeF] at h
    obtain ⟨L, hL, hall⟩ := bindL_mem h
    refine wpIn_seq (ihx hL hro hS ht hd ?_)
    intro r hr E1 a1 w1 hE1 hS1 ht1 hd1 hk1 hz1
    obtain ⟨outs2, hr2, hsub⟩ := hall r hr
    cases hre : r.e with
    | normal =>
      rw [hre] at hr2
      refine ihy hr2 (hro.mono hE1) hS1 ht1 hd1 ?_
      intro q hq E2 a2 w2 hE2 hS2 ht2 hd2 hk2 hz2
      exact hQ q (hsub q hq) E2 a2 w2 (hE1.trans hE2) hS2 ht2 hd2 (hk1.trans hk2) (Nat.le_trans hz1 hz2)
    | exit id =>
      rw [hre] at hr2
      cases hr2
      exact hQ { r with e := .exit id } (hsub _ (by simp)) E1 a1 w1 hE1 hS1 ht1 hd1 hk1 hz1
    | ret =>
      rw [hre] at hr2
      cases hr2
      exact hQ { r with e := .ret } (hsub _ (by simp)) E1 a1 w1 hE1 hS1 ht1 hd1 hk1 hz1
  | cond x y z ihy ihz =>
    intro ts ds S outs E w a n Q h hro hS ht hd hQ
    simp only [codeF] at h
    split at h
    case h_1 hx =>
      have hv := (evalA_ok ht hx).scalar_eq rfl
      exact wpIn_cond hv (ihy h hro hS ht hd hQ)
    case h_2 hx =>
      have hv := (evalA_ok ht hx).scalar_eq rfl
      exact wpIn_cond hv (ihz h hro hS ht hd hQ)
    case h_3 => cases h
  | block id x ih =>
    intro ts ds S outs E w a n Q h hro hS ht hd hQ
    simp only [codeF] at h
    obtain ⟨L, hL, hall⟩ := bindL_mem h
    refine wpIn_block (ih hL hro hS ht hd ?_)
    intro r hr E1 a1 w1 hE1 hS1 ht1 hd1 hk1 hz1
    obtain ⟨outs2, hr2, hsub⟩ := hall r hr
    cases hre : r.e with
    | normal =>
      rw [hre] at hr2
      cases hr2
      exact hQ { r with e := .normal } (hsub _ (by simp)) E1 a1 w1 hE1 hS1 ht1 hd1 hk1 hz1
    | exit id' =>
      rw [hre] at hr2
      simp only at hr2
      show Exit.inBlock id Q (.exit id') a1 w1
      unfold Exit.inBlock
      split at hr2
      case isTrue he =>
        cases hr2
        simp only [he, if_true]
        exact hQ { r with e := .normal } (hsub _ (by simp)) E1 a1 w1 hE1 hS1 ht1 hd1 hk1 hz1
      case isFalse he =>
        cases hr2
        simp only [he, if_false]
        exact hQ { r with e := .exit id' } (hsub _ (by simp)) E1 a1 w1 hE1 hS1 ht1 hd1 hk1 hz1
    | ret =>
      rw [hre] at hr2
      cases hr2
      exact hQ { r with e := .ret } (hsub _ (by simp)) E1 a1 w1 hE1 hS1 ht1 hd1 hk1 hz1
  | scope x ih =>
    intro ts ds S outs E w a n Q h hro hS ht hd hQ
    simp only [codeF] at h
    refine wpIn_scope (ih h hro hS ht hd ?_)
    intro r hr E1 a1 w1 hE1 hS1 ht1 hd1 hk1 hz1
    refine ⟨?_, hQ r hr E1 a1 w1 hE1 hS1 ht1 hd1 hk1 hz1⟩
    intro l hl
    cases hre : r.e <;> rw [hre] at hl <;> cases hl
  | loop x ih =>
    intro ts ds S outs E w a n Q h hro hS ht hd hQ
    simp only [codeF] at h
    have hloop : ∀ (m : Nat) {ts : List Value} {ds : List Nat} {S : St} {outs : List Res} {E : Env} {w : World} {a : Act},
        loopF (codeF G P T ro x) m ts ds S = some outs → RoR E ro ro' → SR w0 E S w → VRs E ts a.tmps.toList → DsR E ds a.defers →
        (∀ r ∈ outs, ∀ E' a' w', E.le E' → SR w0 E' r.S w' → VRs E' r.ts a'.tmps.toList → DsR E' r.ds a'.defers → Keeps S r.S → w.heap.size ≤ w'.heap.size → Q r.e.to a' w') →
        Code.roundsIn (fence ro') n P x Q m a w := by
      intro m
      induction m with
      | zero => intro ts ds S outs E w a h; simp [loopF] at h
      | succ m ihm =>
        intro ts ds S outs E w a h hro hS ht hd hQ
        simp only [loopF] at h
        obtain ⟨L, hL, hall⟩ := bindL_mem h
        rw [roundsIn_succ]
        refine ih hL hro hS ht hd ?_
        intro r hr E1 a1 w1 hE1 hS1 ht1 hd1 hk1 hz1
        obtain ⟨outs2, hr2, hsub⟩ := hall r hr
        cases hre : r.e with
        | normal =>
          rw [hre] at hr2
          refine ihm hr2 (hro.mono hE1) hS1 ht1 hd1 ?_
          intro q hq E2 a2 w2 hE2 hS2 ht2 hd2 hk2 hz2
          exact hQ q (hsub q hq) E2 a2 w2 (hE1.trans hE2) hS2 ht2 hd2 (hk1.trans hk2) (Nat.le_trans hz1 hz2)
        | exit id =>
          rw [hre] at hr2
          cases hr2
          exact hQ { r with e := .exit id } (hsub _ (by simp)) E1 a1 w1 hE1 hS1 ht1 hd1 hk1 hz1
        | ret =>
          rw [hre] at hr2
          cases hr2
          exact hQ { r with e := .ret } (hsub _ (by simp)) E1 a1 w1 hE1 hS1 ht1 hd1 hk1 hz1
    exact wpIn_loop_rounds _ (hloop _ h hro hS ht hd hQ)
  | region id ops draw =>
    intro ts ds S outs E w a n Q h hro hS ht hd hQ
    simp only [codeF] at h
    cases draw with
    | true =>
      simp only [if_true] at h
      rw [Option.map_eq_some_iff] at h
      obtain ⟨outs2, h1, rfl⟩ := h
      refine drawA_ok hT hG h1 hS ht ?_
      intro r hr E' a' w' hE hS' ht' hd' hk hz
      exact hQ { e := .normal, ts := r.1, ds, S := r.2 } (List.mem_map.2 ⟨r, hr, rfl⟩) E' a' w' hE hS' ht' (by rw [hd']; exact hd.mono hE) hk hz
    | false =>
      simp only [Bool.false_eq_true, if_false] at h
      rw [Option.map_eq_some_iff] at h
      obtain ⟨outs2, h1, rfl⟩ := h
      refine wpIn_region (ops_ok hT hG _ h1 hS ht ?_)
      intro r hr E' a' w' hE hS' ht' hd' hk hz
      exact hQ { e := .normal, ts := r.1, ds, S := r.2 } (List.mem_map.2 ⟨r, hr, rfl⟩) E' a' w' hE hS' ht' (by rw [hd']; exact hd.mono hE) hk hz
  | rangeFunc f ps asg bd =>
    intro ts ds S outs E w a n Q h hro hS ht hd hQ
    simp only [codeF] at h
    exact rangeF_ok hG h hro hS ht hd hQ
end
end Go.Ax
end
/- part AxY -/
section
/- The abstract run of a call says what the call comes to. -/
namespace Go.Ax
open Go.RowKit

section
variable {P : Program} {T : Tab} (hT : TabOK P T) {G : Fns} (hG : OK P G) {w0 : Base}

theorem close_ok {fn : Func} {tmps : Array Value} {R : Ending → World → Prop} {n : Nat} : ∀ {ds : List Nat} {S S2 : St} {E : Env} {w : World} {ds' : List Deferred}, closeA ds S = some S2 → SR w0 E S w → DsR E ds ds' →
    (∀ w2, SR w0 E S2 w2 → Keeps S S2 → w.heap.size ≤ w2.heap.size → ∃ v, (results fn tmps).run P w2 = .ok v w2 ∧ R (.returned v) w2) → LeavesInM Fence.wide n P fn tmps R ds' .returning w := by
  intro ds
  induction ds with
  | nil =>
    intro S S2 E w ds' h hS hd hres
    simp only [closeA, Option.some.injEq] at h
    subst h
    cases hd
    exact hres w hS (.refl S) (Nat.le_refl _)
  | cons d ds ih =>
    intro S S2 E w ds' h hS hd hres
    simp only [closeA] at h
    cases hd with
    | cons hb hd1 =>
      rename_i b κ ds'
      split at h
      case h_2 => cases h
      case h_1 hget =>
        obtain ⟨b', κ', h1, h2⟩ := hS.at hget hb
        rw [hb] at h1
        cases h1
        refine ⟨by simp, .inl ⟨b, putB w b (.deferred none), rfl, ?_, ?_⟩⟩
        · unfold Instr.takeDeferred
          simp only [Sem.run_bind, run_getObj (P := P) h2 (by intro c t f h; cases h), Result.andThen_ok]
          simp only [if_true, Sem.run_bind]
          rw [run_setObj h2 (by intro c t f h; cases h)]
          simp
        · have hS' : SR w0 E (S.set d (.defd false)) (putB w b (.deferred none)) := hS.put hget rfl hb _ _ (fun w' hw' => ⟨b, κ, hb, by simpa using hw'⟩)
          refine ih h hS' hd1 ?_
          intro w2 hS2 hk hz
          rw [putB_size] at hz
          exact hres w2 hS2 ((Keeps.set (St.get_lt hget) _).trans hk) hz

noncomputable def resSem (tmps : Array Value) (x : ResultVar) : Sem Value :=
  match x with
  | .tmp t => pure (tmps.getD t undef)
  | .cell a t => do loadVar t (← asAddr (tmps.getD a undef))
theorem results_eq (fn : Func) (tmps : Array Value) : results fn tmps = (do
    let vs ← fn.results.mapM (resSem tmps)
    pure (if h : vs.size = 1 then vs[0] else .tuple vs)) := rfl
include hT in
theorem res_ok {S : St} {E : Env} {w : World} {ts : List Value} {tmps : Array Value} (hS : SR w0 E S w) (ht : VRs E ts tmps.toList) : ∀ {l : List ResultVar} {vs : List Value}, resA T S ts l = some vs →
    ∃ vs', (l.mapM (resSem tmps)).run P w = .ok vs' w ∧ VRs E vs vs' := by
  have hget : ∀ t, VR E (ts.getD t undef) (tmps.getD t undef) := by
    intro t
    have := ht.getD t (d := undef) (d' := undef) (.tuple .nil)
    simpa using this
  intro l
  induction l with
  | nil => intro vs h; simp only [resA, Option.some.injEq] at h; subst h; exact ⟨[], by simp, .nil⟩
  | cons r l ih =>
    intro vs h
    cases r with
    | tmp t =>
      simp only [resA] at h
      split at h
      case h_2 => cases h
      case h_1 vs0 h0 =>
        cases h
        obtain ⟨vs', g1, g2⟩ := ih h0
        exact ⟨tmps.getD t undef :: vs', by simp only [List.mapM_cons, resSem, Sem.run_bind, Sem.run_pure, Result.andThen_ok, g1], .cons (hget t) g2⟩
    | cell a t =>
      simp only [resA] at h
      split at h
      case h_2 => cases h
      case h_1 v vs0 hv h0 =>
        cases h
        obtain ⟨vs', g1, g2⟩ := ih h0
        obtain ⟨r', k1, k2⟩ := does_load (P := P) hT hv hS (hget a)
        have hk : (resSem tmps (.cell a t)).run P w = .ok r' w := by
          have hx := hget a
          generalize ts.getD a undef = x at hx hv
          unfold loadA at hv
          split at hv
          case h_2 => cases hv
          case h_1 b o =>
            generalize hy : tmps.getD a undef = y at hx k1
            cases hx with
            | sc hs => simp [scalar] at hs
            | ptr o hb =>
              unfold resSem
              simp only [hy, asAddr]
              simpa [Instr.loadAt, Instr.sureAddr] using k1
        exact ⟨r' :: vs', by simp only [List.mapM_cons, Sem.run_bind, hk, Sem.run_pure, Result.andThen_ok, g1], .cons k2 g2⟩

theorem tup_rel {E : Env} {vs vs' : List Value} (h : VRs E vs vs') : VR E (tupA vs) (if h : vs'.toArray.size = 1 then vs'.toArray[0] else .tuple vs'.toArray) := by
  cases h with
  | nil => exact .tuple .nil
  | cons h1 h2 =>
    cases h2 with
    | nil => simpa [tupA] using h1
    | cons h3 h4 =>
      simp only [tupA]
      rw [dif_neg (by simp)]
      exact .tuple (.cons h1 (.cons h3 h4))

include hT hG in
theorem callF_ok {f : FuncId} {args : List Value} {S : St} {outs : List (Value × Option St)} (h : callF G T f args S = some outs) :
    (∃ fn c, P.funcs[f]? = some fn ∧ (fn.name == "runtime.NumGoroutine") = false ∧ fn.body = some c) ∧
    ∀ {w0 : Base} {E : Env} {w : World} {args' : List Value} {n : Nat} {R : Ending → World → Prop}, SR w0 E S w → VRs E args args' →
      (∀ r ∈ outs, ∀ E' v' w', E.le E' → SR w0 E' (r.2.getD S) w' → VR E' r.1 v' → Keeps S (r.2.getD S) → w.heap.size ≤ w'.heap.size → R (.returned v') w') →
      CallsIn Fence.wide n P f args'.toArray w R := by
  unfold callF at h
  split at h
  case h_2 => cases h
  case h_1 fn hfn =>
    split at h
    case h_2 => cases h
    case h_1 c hc =>
      obtain ⟨k1, k2⟩ := hT.fn f fn hfn
      refine ⟨⟨fn, c, k1, k2, hc⟩, ?_⟩
      intro w0 E w args' n R hS hv hR
      rw [Option.map_eq_some_iff] at h
      obtain ⟨outs1, hb, rfl⟩ := h
      obtain ⟨L, hL, hall⟩ := bindL_mem hb
      refine callsIn_of_wp_marks k1 hc trivial ?_
      have hcode := hG.code (w0 := w0) (ro' := none) (n := n) (Q := bodyPostM Fence.wide n P fn R) (a := { tmps := args'.toArray ++ Array.replicate (fn.ntmps - args'.toArray.size) undef, defers := [] }) hL .none (hS.low S.n) (by
        rw [lapp_eq, lrep_eq]
        have e : (args'.toArray ++ Array.replicate (fn.ntmps - args'.toArray.size) undef).toList = args' ++ List.replicate (fn.ntmps - args.length) undef := by
          rw [hv.length]; simp
        rw [e]
        exact hv.append (VRs.replicate (.tuple .nil) _)) .nil
      refine hcode ?_
      intro r hr E1 a1 w1 hE1 hS1 ht1 hd1 hk1 hz1
      obtain ⟨outs2, hr2, hsub⟩ := hall r hr
      have key : (match closeA r.ds r.S with
          | some S2 => match resA T S2 r.ts fn.results.toList with
            | some vs => some [finA S (tupA vs) S2]
            | none => none
          | none => none) = some outs2 → LeavesInM Fence.wide n P fn a1.tmps R a1.defers .returning w1 := by
        intro hx
        split at hx
        case h_2 => cases hx
        case h_1 S2 hcl =>
          split at hx
          case h_2 => cases hx
          case h_1 vs hres =>
            cases hx
            refine close_ok hcl hS1 hd1 ?_
            intro w2 hS2 hk2 hz2
            obtain ⟨vs', g1, g2⟩ := res_ok (P := P) hT hS2 ht1 hres
            refine ⟨if h : vs'.toArray.size = 1 then vs'.toArray[0] else .tuple vs'.toArray, ?_, ?_⟩
            · rw [results_eq, ← Array.toArray_toList (xs := fn.results), List.mapM_toArray]
              simp only [Sem.run_bind, Sem.run_map, g1, Result.andThen_ok, Sem.run_pure]
            · have hvr := tup_rel g2
              have hmem := List.mem_map_of_mem (f := outF S) (dedupL_mem outs1 (finA S (tupA vs) S2) (hsub _ (by simp)))
              have hkk := hk1.trans hk2
              unfold finA at hmem
              split at hmem
              case h_1 hble =>
                rw [Bool.and_eq_true] at hble
                have hmono : S2.mono = S.mono := by simpa using hble.2
                have hble := Nat.le_of_ble_eq_true hble.1
                split at hmem
                case h_1 u news hgc =>
                  have hsame : ∀ i, i < S.n → S2.get i = S.get i := fun i hi => hkk.same i (by omega) hi
                  obtain ⟨E3, q1, q2, q3, q4⟩ := gc_ok hS hS2 hE1 hsame (by omega) hmono hgc hvr
                  cases news with
                  | nil => exact hR _ hmem E3 _ w2 q1 q2 q3 q4 (by omega)
                  | cons o l => exact hR _ hmem E3 _ w2 q1 q2 q3 q4 (by omega)
                case h_2 =>
                  refine hR _ hmem E1 _ w2 hE1 (hS2.low _) hvr ⟨hkk.n, Nat.le_refl _, ?_⟩ (by omega)
                  intro i hi hin
                  exact hkk.same i (by omega) hin
              case h_2 =>
                refine hR _ hmem E1 _ w2 hE1 (hS2.low _) hvr ⟨hkk.n, ?_, ?_⟩ (by omega)
                · simp only [outF, Option.getD_some]; split <;> omega
                · intro i hi hin
                  simp only [outF, Option.getD_some] at hi
                  exact hkk.same i (by split at hi <;> omega) hin
      cases hre : r.e with
      | normal => rw [hre] at hr2; exact key hr2
      | ret => rw [hre] at hr2; exact key hr2
      | exit id => rw [hre] at hr2; cases hr2

/-- what a call comes to, in the walk's terms -/
def CallIs (P : Program) (f : FuncId) (args : List Value) (S : St) (outs : List (Value × Option St)) : Prop :=
    (∃ fn c, P.funcs[f]? = some fn ∧ (fn.name == "runtime.NumGoroutine") = false ∧ fn.body = some c) ∧
    ∀ {w0 : Base} {E : Env} {w : World} {args' : List Value} {n : Nat} {R : Ending → World → Prop}, SR w0 E S w → VRs E args args' →
      (∀ r ∈ outs, ∀ E' v' w', E.le E' → SR w0 E' (r.2.getD S) w' → VR E' r.1 v' → Keeps S (r.2.getD S) → w.heap.size ≤ w'.heap.size → R (.returned v') w') →
      CallsIn Fence.wide n P f args'.toArray w R
def KnownOK (P : Program) (X : Known) : Prop := ∀ f args S outs, X f args S = some outs → CallIs P f args S outs
theorem noX_ok : KnownOK P noX := fun _ _ _ _ h => by cases h
theorem orX_ok {X Y : Known} (hX : KnownOK P X) (hY : KnownOK P Y) : KnownOK P (orX X Y) := by
  intro f args S outs h
  unfold orX at h
  split at h
  · rename_i l hl
    cases h
    exact hX _ _ _ _ hl
  · exact hY _ _ _ _ h

include hT in
theorem iter_ok {X : Known} (hX : KnownOK P X) : ∀ n, OK P (iter P T X n) := by
  intro n
  induction n with
  | zero => exact ⟨fun h => (by cases h), fun h => (by cases h)⟩
  | succ n ih =>
    refine ⟨fun {f args S outs} h => ?_, fun {ro c ts ds S outs} h => fun {w0 E w a ro' m Q} hro hS ht hd hQ => codeF_ok hT ih c h hro hS ht hd hQ⟩
    have h' : (match X f args S with | some l => some l | none => callF (iter P T X n) T f args S) = some outs := h
    split at h'
    · rename_i l hl
      cases h'
      exact hX _ _ _ _ hl
    · exact callF_ok hT ih h'
include hT in
theorem callIs_run {X : Known} (hX : KnownOK P X) {m : Nat} {f : FuncId} {args : List Value} {S : St} {outs : List (Value × Option St)} (h : (iter P T X m).call f args S = some outs) : CallIs P f args S outs :=
  (iter_ok hT hX m).call h

noncomputable def start0 : St := { objs := [], n := 0, low := 0 }
/-- **What is known of a call upon plain arguments, as a contract.** -/
theorem calls_is {f : FuncId} {args : List Value} {outs : List (Value × Option St)} (h : CallIs P f args start0 outs) (ha : plains1 args = true) (hp : (outs.all fun r => plain r.1) = true) (w : World) :
    Calls P f args.toArray w fun e w' => (∃ r ∈ outs, e = .returned r.1) ∧ Below w.heap.size w w' := by
  refine (callsIn_wide (n := 1)).1 ?_
  refine h.2 (SR.start w) (VRs.of_plains1 ha) ?_
  intro r hr E' v' w' hE hS hv hk hz
  have := List.all_eq_true.1 hp r hr
  have hb := hS.below
  exact ⟨⟨r, hr, by rw [hv.plain_eq this]⟩, ⟨hb.os, hb.tape, hb.output, hb.size, fun k hk => hb.block k hk⟩⟩
end

/-! one known call -/
noncomputable def eqSt (S S' : St) : Bool := Nat.beq S.n S'.n && Nat.beq S.low S'.low && eqOs S.objs S'.objs && (S.mono == S'.mono)
theorem eqSt_ok {S S' : St} (h : eqSt S S' = true) : S = S' := by
  unfold eqSt at h
  simp only [Bool.and_eq_true] at h
  obtain ⟨⟨⟨h1, h2⟩, h3⟩, h4⟩ := h
  obtain ⟨a, b, c, d⟩ := S
  obtain ⟨a', b', c', d'⟩ := S'
  have e4 : d = d' := by simpa using h4
  have e1 := Nat.eq_of_beq_eq_true h1
  have e2 := Nat.eq_of_beq_eq_true h2
  have e3 := eqOs_ok h3
  simp only at e1 e2 e3
  rw [e1, e2, e3, e4]
noncomputable def oneX (f0 : FuncId) (args0 : List Value) (S0 : St) (outs0 : List (Value × Option St)) : Known := fun f args S =>
  match Nat.beq f f0 with
  | true => (match eqLs eqV args args0 && eqSt S S0 with
    | true => some outs0
    | false => none)
  | false => none
theorem oneX_ok {P : Program} {f0 : FuncId} {args0 : List Value} {S0 : St} {outs0 : List (Value × Option St)} (h : CallIs P f0 args0 S0 outs0) : KnownOK P (oneX f0 args0 S0 outs0) := by
  intro f args S outs hx
  unfold oneX at hx
  split at hx
  · rename_i hf
    split at hx
    · rename_i he
      cases hx
      rw [Bool.and_eq_true] at he
      rw [Nat.eq_of_beq_eq_true hf, eqLs_ok (fun h => eqV_ok h) he.1, eqSt_ok he.2]
      exact h
    · cases hx
  · cases hx
end Go.Ax
end
/- part AxZ -/
section
/- A program's own tables. -/
namespace Go.Ax
open Go.RowKit

noncomputable def undOf (ts : List TypeInfo) (t : TypeId) : Option TypeDesc :=
  match ts[t]? with
  | some i => (match i.desc with
    | .named _ u => (match ts[u]? with | some j => some j.desc | none => none)
    | d => some d)
  | none => none
noncomputable def infoOf (ts : List TypeInfo) (t : TypeId) : Option TI :=
  match ts[t]? with
  | some i => (match i.zero with
    | some z => some { zero := z, size := i.size, bytes := i.bytes }
    | none => none)
  | none => none
noncomputable def tabOf (P : Program) : Tab where
  fn := fun f => P.funcs.toList[f]?
  info := infoOf P.types.toList
  und := undOf P.types.toList
noncomputable def namesOk (P : Program) : Bool := P.funcs.toList.all fun x => !(x.name == "runtime.NumGoroutine")
theorem info_of {P : Program} {t : TypeId} {i : TypeInfo} (h : P.types.toList[t]? = some i) : P.info? t = some i := by
  have hlt : t < P.types.size := by
    rcases Nat.lt_or_ge t P.types.size with hlt | hge
    · exact hlt
    · rw [List.getElem?_eq_none (by simpa using hge)] at h; cases h
  unfold Tables.info?
  rw [if_pos hlt]
  simpa using h
theorem tabOf_ok {P : Program} (hn : namesOk P = true) (hm : P.follows .mixedOrders = true) : TabOK P (tabOf P) where
  fn := by
    intro f x h
    have h' : P.funcs.toList[f]? = some x := h
    refine ⟨by simpa using h', ?_⟩
    have := List.all_eq_true.1 hn x (List.mem_of_getElem? h')
    simpa using this
  info := by
    intro t i h
    have h' : infoOf P.types.toList t = some i := h
    unfold infoOf at h'
    split at h'
    case h_2 => cases h'
    case h_1 j hj =>
      split at h'
      case h_2 => cases h'
      case h_1 z hz =>
        cases h'
        exact ⟨j, info_of hj, hz, rfl, rfl⟩
  und := by
    intro t d h
    have h' : undOf P.types.toList t = some d := h
    unfold undOf at h'
    unfold Program.underlying
    split at h'
    case h_2 => cases h'
    case h_1 i hi =>
      rw [info_of hi]
      split at h'
      case h_1 nm u hd =>
        split at h'
        case h_2 => cases h'
        case h_1 j hj =>
          cases h'
          obtain ⟨desc, _⟩ := i
          simp only at hd
          subst hd
          simp only [info_of hj, Option.map_some]
      case h_2 d' hnn =>
        cases h'
        obtain ⟨desc, str, size, bytes, hp, al, fa, zero, cmp, ms⟩ := i
        cases desc <;> first | rfl | (exact absurd rfl (hnn _ _))
  mixed := hm

/-- the outcome of a closed call: plain values, and no other -/
noncomputable def outsAre (vs : List Value) : Option (List (Value × Option St)) → Bool
  | some l => l.all fun r => plain r.1 && vs.any fun v => eqV r.1 v
  | none => false
theorem calls_closed {P : Program} (hn : namesOk P = true) (hm : P.follows .mixedOrders = true) {X : Known} (hX : KnownOK P X) (m : Nat) (f : FuncId) (args : List Value) (ha : plains1 args = true) (v : Value)
    (h : outsAre [v] ((iter P (tabOf P) X m).call f args start0) = true) (w : World) : Calls P f args.toArray w fun e w' => e = .returned v ∧ Below w.heap.size w w' := by
  cases hx : (iter P (tabOf P) X m).call f args start0 with
  | none => rw [hx] at h; cases h
  | some outs =>
    rw [hx] at h
    have hall := List.all_eq_true.1 h
    have hp : (outs.all fun r => plain r.1) = true := by
      rw [List.all_eq_true]
      intro r hr
      have := hall r hr
      rw [Bool.and_eq_true] at this
      exact this.1
    refine (calls_is (callIs_run (tabOf_ok hn hm) hX hx) ha hp w).mono ?_
    rintro e w' ⟨⟨r, hr, rfl⟩, hb⟩
    refine ⟨?_, hb⟩
    have := hall r hr
    simp only [Bool.and_eq_true, List.any_cons, List.any_nil, Bool.or_false] at this
    rw [eqV_ok this.2]
/-- two lists of outcomes, the one within the other -/
noncomputable def eqR (S : St) (x y : Value × Option St) : Bool := eqV x.1 y.1 && eqSt (x.2.getD S) (y.2.getD S)
noncomputable def outsIn (S : St) (outs : List (Value × Option St)) : Option (List (Value × Option St)) → Bool
  | some l => l.all fun r => outs.any fun q => eqR S r q
  | none => false
/-- a call's outcomes, told beforehand -/
theorem callIs_told {P : Program} (hn : namesOk P = true) (hm : P.follows .mixedOrders = true) {X : Known} (hX : KnownOK P X) (m : Nat) {f : FuncId} {args : List Value} {S : St} {outs : List (Value × Option St)}
    (h : outsIn S outs ((iter P (tabOf P) X m).call f args S) = true) : CallIs P f args S outs := by
  cases hx : (iter P (tabOf P) X m).call f args S with
  | none => rw [hx] at h; cases h
  | some l =>
    rw [hx] at h
    have hall := List.all_eq_true.1 h
    obtain ⟨h1, h2⟩ := callIs_run (tabOf_ok hn hm) hX hx
    refine ⟨h1, fun {w0 E w args' n R} hS hv hR => h2 hS hv fun r hr E' v' w' hE hS' hv' hk hz => ?_⟩
    obtain ⟨q, hq, he⟩ := List.any_eq_true.1 (hall r hr)
    unfold eqR at he
    rw [Bool.and_eq_true] at he
    have e1 := eqV_ok he.1
    have e2 := eqSt_ok he.2
    exact hR q hq E' v' w' hE (by rw [← e2]; exact hS') (by rw [← e1]; exact hv') (by rw [← e2]; exact hk) hz
end Go.Ax
end
/- part AxJ1 -/
section
/- strings.Join as a known call: by the library's own contract. -/
namespace Go.Ax
open Go.RowKit Go.Proofs

/-- what a contract leaves as it was -/
theorem SR.after {w0 : Base} {E : Env} {S : St} {w w' : World} (h : SR w0 E S w) (hb : Below w.heap.size w w') (hm : S.mono = true → w.drawn ≤ w'.drawn) : SR w0 E S w' where
  len := h.len
  obj := fun i o hi hn => (h.obj i o hi hn).keep (Env.le.refl _) fun b _ hbk => hb.block b (h.rng _ _ _ hbk).2
  hole := h.hole
  dom := h.dom
  inj := h.inj
  rng := fun _ _ _ hbk => ⟨(h.rng _ _ _ hbk).1, Nat.lt_of_lt_of_le (h.rng _ _ _ hbk).2 hb.size⟩
  below := h.below.after hb
  new := h.new
  mono := fun g => Nat.le_trans (h.mono g) (hm g)

noncomputable def strsA : List Value → Option (List ByteArray)
  | [] => some []
  | .string s :: l => (match strsA l with
    | some r => some (s :: r)
    | none => none)
  | _ => none
theorem strsA_ok : ∀ {l : List Value} {xs : List ByteArray}, strsA l = some xs → l = xs.map .string := by
  intro l
  induction l with
  | nil => intro xs h; cases h; rfl
  | cons v l ih =>
    intro xs h
    cases v <;> first | (simp [strsA] at h; done) | skip
    rename_i s
    simp only [strsA] at h
    split at h
    · rename_i r hr
      cases h
      rw [ih hr]
      rfl
    · cases h
noncomputable def joinX (f0 : FuncId) : Known := fun f args S =>
  match Nat.beq f f0, args, S.mono with
  | true, [.slice (some ⟨b, o, none⟩) l c, .string sep], false =>
    (match S.get b with
    | some (.cells cs _ g) =>
      (match strsA ((cs.drop o).take l) with
      | some xs =>
        if xs.length = l ∧ (c < BIG → l ≤ c) ∧ (¬ c < BIG → c = BIG ∧ o = 0 ∧ g = 1) ∧ l ≤ 140737488355328 ∧ (Lib.join (xs.map (·.data.toList)) sep.data.toList).length ≤ 140737488355328 then
          some [(.string ⟨(Lib.join (xs.map (·.data.toList)) sep.data.toList).toArray⟩, none)]
        else none
      | none => none)
    | _ => none)
  | true, [.slice none 0 0, .string _], _ => some [(.string ⟨#[]⟩, none)]
  | _, _, _ => none
theorem joinX_ok {P : Program} {ρ : Shelf.Ren} (L : Lays.n156 P ρ) (X : Builder.Extra P ρ) (hfn : ∃ fn c, P.funcs[ρ.f 156]? = some fn ∧ (fn.name == "runtime.NumGoroutine") = false ∧ fn.body = some c) : KnownOK P (joinX (ρ.f 156)) := by
  intro f args S outs hx
  unfold joinX at hx
  split at hx
  case h_3 => cases hx
  case h_1 b o l c sep hf hmono =>
    have hf := Nat.eq_of_beq_eq_true hf
    split at hx
    case h_2 => cases hx
    case h_1 cs t g hget =>
      split at hx
      case h_2 => cases hx
      case h_1 xs hxs =>
        split at hx
        case isFalse => cases hx
        case isTrue hc =>
          cases hx
          obtain ⟨rfl, c1, c2, c3, c4⟩ := hc
          subst hf
          refine ⟨hfn, ?_⟩
          intro w0 E w args' n R hS hv hR
          cases hv with
          | cons hv1 hv2 =>
            cases hv2 with
            | cons hv2 hv3 =>
              cases hv3
              have e2 := hv2.scalar_eq rfl
              subst e2
              cases hv1 with
              | sc hs => simp [scalar] at hs
              | sl o l c hb =>
                rename_i b' κ
                obtain ⟨cs', pad, q1, q2, q3, q4⟩ := hS.cells hget hb
                have hstr := strsA_ok hxs
                refine callsIn_wide.2 ?_
                have hz := (hS.rng _ _ _ hb).2
                have hlen : (cs.drop o).length ≥ xs.length := by
                  have := congrArg List.length hstr
                  rw [List.length_take, List.length_map] at this
                  omega
                refine (Any.strings_Join L X b' o (capOf κ c) xs sep w ?_ hz c3 ?_ c4).mono ?_
                · intro j x hj
                  have hj2 : ((cs.drop o).take xs.length)[j]? = some (.string x) := by rw [hstr]; simp [hj]
                  rw [List.getElem?_take] at hj2
                  split at hj2
                  · rw [List.getElem?_drop] at hj2
                    obtain ⟨y, hy, hr⟩ := q2.get hj2
                    have := hr.scalar_eq rfl
                    subst this
                    unfold World.cell?
                    rw [q1]
                    have hlt : o + j < cs'.length := by
                      rcases Nat.lt_or_ge (o + j) cs'.length with h | h
                      · exact h
                      · rw [List.getElem?_eq_none h] at hy; cases hy
                    simp only [Option.isSome_none, Bool.false_eq_true, if_false, List.getElem?_toArray]
                    rw [List.getElem?_append_left hlt]
                    exact hy
                  · cases hj2
                · unfold capOf
                  split
                  · rename_i h; exact c1 h
                  · rename_i h
                    obtain ⟨d1, d2, d3⟩ := c2 h
                    have := q4 (by omega)
                    rw [d3] at this
                    rw [List.length_drop] at hlen
                    omega
                · rintro e w' ⟨rfl, hb'⟩
                  exact hR (.string ⟨(Lib.join (xs.map (·.data.toList)) sep.data.toList).toArray⟩, none) (by simp) E _ w' (.refl E) (hS.after hb' (fun g => by rw [hmono] at g; cases g)) (.sc rfl) (.refl S) hb'.size
  case h_2 sep hf =>
    have hf := Nat.eq_of_beq_eq_true hf
    cases hx
    subst hf
    refine ⟨hfn, ?_⟩
    intro w0 E w args' n R hS hv hR
    cases hv with
    | cons hv1 hv2 =>
      cases hv2 with
      | cons hv2 hv3 =>
        cases hv3
        have e1 := hv1.scalar_eq rfl
        have e2 := hv2.scalar_eq rfl
        subst e1 e2
        refine callsIn_wide.2 ?_
        refine (Any.strings_Join_none L X none 0 _ w).mono ?_
        rintro e w' ⟨rfl, rfl⟩
        exact hR (.string ⟨#[]⟩, none) (by simp) E _ w' (.refl E) hS (.sc rfl) (.refl S) (Nat.le_refl _)
end Go.Ax
end
/- part Wa -/
section
/- Proofs by hand upon the abstract run: code, calls and loops with one outcome, whatever the values. -/
namespace Go.Ax
open Go.RowKit

/-- the temporaries as a function -/
noncomputable def tl (n : Nat) (τ : Nat → Value) : List Value := (List.range n).map τ
noncomputable def upd (τ : Nat → Value) (t : Nat) (v : Value) : Nat → Value := fun u => if u = t then v else τ u
theorem upd_def (τ : Nat → Value) (t : Nat) (v : Value) (u : Nat) : upd τ t v u = if u = t then v else τ u := rfl
theorem tl_length (n : Nat) (τ : Nat → Value) : (tl n τ).length = n := by simp [tl]
theorem tl_get (n : Nat) (τ : Nat → Value) (t : Nat) : (tl n τ)[t]? = if t < n then some (τ t) else none := by
  unfold tl
  by_cases h : t < n
  · simp [h]
  · simp [h]
theorem tl_lget (n : Nat) (τ : Nat → Value) {t : Nat} (h : t < n) : lget (tl n τ) t = some (τ t) := by rw [lget_eq, tl_get, if_pos h]
theorem tl_lset (n : Nat) (τ : Nat → Value) (t : Nat) (v : Value) : lset (tl n τ) t v = tl n (upd τ t v) := by
  rw [lset_eq]
  apply List.ext_getElem?
  intro i
  rw [tl_get, List.getElem?_set, tl_get, tl_length]
  unfold upd
  by_cases hi : i < n
  · by_cases e : t = i
    · subst e; simp [hi]
    · simp [hi, e]; exact fun h => absurd h.symm e
  · by_cases e : t = i
    · subst e; simp [hi]
    · simp [hi, e]
noncomputable def updO (τ : Nat → Value) (d : Option Tmp) (v : Value) : Nat → Value := match d with
  | some t => upd τ t v
  | none => τ
theorem tl_put (n : Nat) (τ : Nat → Value) (d : Option Tmp) (v : Value) : putA (tl n τ) d v = tl n (updO τ d v) := by
  cases d with
  | none => rfl
  | some t => exact tl_lset n τ t v
noncomputable def ofArgs (l : List Value) : Nat → Value := fun t => l.getD t undef
theorem tl_args (n : Nat) (l : List Value) (h : l.length ≤ n) : lapp l (lrep (n - l.length) undef) = tl n (ofArgs l) := by
  rw [lapp_eq, lrep_eq]
  apply List.ext_getElem?
  intro i
  rw [tl_get]
  unfold ofArgs
  by_cases hi : i < n
  · rw [if_pos hi]
    by_cases hl : i < l.length
    · rw [List.getElem?_append_left hl, List.getD_eq_getElem?_getD, List.getElem?_eq_getElem hl]; rfl
    · rw [List.getElem?_append_right (by omega), List.getElem?_replicate, if_pos (by omega), List.getD_eq_getElem?_getD, List.getElem?_eq_none (by omega)]; rfl
  · rw [if_neg hi, List.getElem?_eq_none (by simp; omega)]

/-- code that comes to one outcome -/
def CodeIs (P : Program) (ro : Option Nat) (c : Code) (ts : List Value) (ds : List Nat) (S : St) (r : Res) : Prop :=
  ∀ {w0 : Base} {E : Env} {w : World} {a : Act} {ro' : Option Nat} {n : Nat} {Q : Exit → Act → World → Prop}, RoR E ro ro' → SR w0 E S w → VRs E ts a.tmps.toList → DsR E ds a.defers →
    (∀ E' a' w', E.le E' → SR w0 E' r.S w' → VRs E' r.ts a'.tmps.toList → DsR E' r.ds a'.defers → Keeps S r.S → w.heap.size ≤ w'.heap.size → Q r.e.to a' w') →
    c.wpIn (fence ro') n P Q a w
def OpsIs (P : Program) (ro : Option Nat) (ops : Array Oper) (l : List Nat) (ts : List Value) (ds : List Nat) (S : St) (ts2 : List Value) (S2 : St) : Prop :=
  ∀ {w0 : Base} {E : Env} {w : World} {a : Act} {ro' : Option Nat} {n : Nat} {Q : Exit → Act → World → Prop}, RoR E ro ro' → SR w0 E S w → VRs E ts a.tmps.toList → DsR E ds a.defers →
    (∀ E' a' w', E.le E' → SR w0 E' S2 w' → VRs E' ts2 a'.tmps.toList → DsR E' ds a'.defers → Keeps S S2 → w.heap.size ≤ w'.heap.size → Q .normal a' w') →
    wpOpsIn (fence ro') n P ops Q l a w

abbrev Post := AExit → (Nat → Value) → List Nat → St → Prop
def W (P : Program) (n : Nat) (ro : Option Nat) (c : Code) (τ : Nat → Value) (ds : List Nat) (S : St) (Q : Post) : Prop :=
  ∃ e τ' ds' S', CodeIs P ro c (tl n τ) ds S { e := e, ts := tl n τ', ds := ds', S := S' } ∧ Q e τ' ds' S'
def CallW (P : Program) (f : FuncId) (args : List Value) (S : St) (Q : Value → St → Prop) : Prop :=
  ∃ v S', CallIs P f args S [(v, some S')] ∧ Q v S'
theorem CallW.mono {P : Program} {f : FuncId} {args : List Value} {S : St} {Q Q' : Value → St → Prop} (h : CallW P f args S Q) (hq : ∀ v S', Q v S' → Q' v S') : CallW P f args S Q' := by
  obtain ⟨v, S', h1, h2⟩ := h
  exact ⟨v, S', h1, hq _ _ h2⟩
theorem W.mono {P : Program} {n : Nat} {ro : Option Nat} {c : Code} {τ : Nat → Value} {ds : List Nat} {S : St} {Q Q' : Post} (h : W P n ro c τ ds S Q) (hq : ∀ e τ ds S, Q e τ ds S → Q' e τ ds S) : W P n ro c τ ds S Q' := by
  obtain ⟨e, τ', ds', S', h1, h2⟩ := h
  exact ⟨e, τ', ds', S', h1, hq _ _ _ _ h2⟩

section
variable {P : Program} {T : Tab} {n : Nat} {ro : Option Nat} {τ : Nat → Value} {ds : List Nat} {S : St} {Q : Post}

theorem W_skip (h : Q .normal τ ds S) : W P n ro .skip τ ds S Q :=
  ⟨.normal, τ, ds, S, fun _ hS ht hd hQ => wpIn_skip (hQ _ _ _ (.refl _) hS ht hd (.refl S) (Nat.le_refl _)), h⟩
theorem W_label {l : Nat} (h : Q .normal τ ds S) : W P n ro (.label l) τ ds S Q :=
  ⟨.normal, τ, ds, S, fun _ hS ht hd hQ => wpIn_label (hQ _ _ _ (.refl _) hS ht hd (.refl S) (Nat.le_refl _)), h⟩
theorem W_ret (h : Q .ret τ ds S) : W P n ro .ret τ ds S Q :=
  ⟨.ret, τ, ds, S, fun _ hS ht hd hQ => wpIn_ret (hQ _ _ _ (.refl _) hS ht hd (.refl S) (Nat.le_refl _)), h⟩
theorem W_exit {id : Nat} (h : Q (.exit id) τ ds S) : W P n ro (.exit id) τ ds S Q :=
  ⟨.exit id, τ, ds, S, fun _ hS ht hd hQ => wpIn_exit (hQ _ _ _ (.refl _) hS ht hd (.refl S) (Nat.le_refl _)), h⟩
/-- what follows -/
def Then (P : Program) (n : Nat) (ro : Option Nat) (b : Code) (Q : Post) : Post := fun e τ ds S => match e with
  | .normal => W P n ro b τ ds S Q
  | .exit id => Q (.exit id) τ ds S
  | .ret => Q .ret τ ds S
theorem Then_normal {b : Code} : Then P n ro b Q .normal τ ds S = W P n ro b τ ds S Q := rfl
theorem Then_exit {b : Code} {id : Nat} : Then P n ro b Q (.exit id) τ ds S = Q (.exit id) τ ds S := rfl
theorem Then_ret {b : Code} : Then P n ro b Q .ret τ ds S = Q .ret τ ds S := rfl
theorem W_seq {x y : Code} (h : W P n ro x τ ds S (Then P n ro y Q)) : W P n ro (.seq x y) τ ds S Q := by
  obtain ⟨e, τ1, ds1, S1, h1, h2⟩ := h
  cases e with
  | normal =>
    obtain ⟨e2, τ2, ds2, S2, h3, h4⟩ := h2
    refine ⟨e2, τ2, ds2, S2, ?_, h4⟩
    intro w0 E w a ro' m R hro hS ht hd hQ
    refine wpIn_seq (h1 hro hS ht hd ?_)
    intro E1 a1 w1 hE1 hS1 ht1 hd1 hk1 hz1
    refine h3 (hro.mono hE1) hS1 ht1 hd1 ?_
    intro E2 a2 w2 hE2 hS2 ht2 hd2 hk2 hz2
    exact hQ E2 a2 w2 (hE1.trans hE2) hS2 ht2 hd2 (hk1.trans hk2) (Nat.le_trans hz1 hz2)
  | exit id =>
    refine ⟨.exit id, τ1, ds1, S1, ?_, h2⟩
    intro w0 E w a ro' m R hro hS ht hd hQ
    exact wpIn_seq (h1 hro hS ht hd fun E1 a1 w1 hE1 hS1 ht1 hd1 hk1 hz1 => hQ E1 a1 w1 hE1 hS1 ht1 hd1 hk1 hz1)
  | ret =>
    refine ⟨.ret, τ1, ds1, S1, ?_, h2⟩
    intro w0 E w a ro' m R hro hS ht hd hQ
    exact wpIn_seq (h1 hro hS ht hd fun E1 a1 w1 hE1 hS1 ht1 hd1 hk1 hz1 => hQ E1 a1 w1 hE1 hS1 ht1 hd1 hk1 hz1)

theorem evalA_tmp {t : Tmp} : evalA (tl n τ) (.tmp t) = some (if t < n then τ t else undef) := by
  simp only [evalA, lget_eq, tl_get]
  split <;> rfl
theorem evalA_const {v : Value} : evalA (tl n τ) (.const v) = if plain v then some v else none := rfl
theorem evalA_func {f : FuncId} : evalA (tl n τ) (.func f) = some (.func (.func f) #[] #[]) := rfl
theorem W_cond {x : Operand} {y z : Code} {b : Bool} (hx : evalA (tl n τ) x = some (.bool b)) (h : W P n ro (if b then y else z) τ ds S Q) : W P n ro (.cond x y z) τ ds S Q := by
  obtain ⟨e, τ', ds', S', h1, h2⟩ := h
  refine ⟨e, τ', ds', S', ?_, h2⟩
  intro w0 E w a ro' m R hro hS ht hd hQ
  exact wpIn_cond ((evalA_ok ht hx).scalar_eq rfl) (h1 hro hS ht hd hQ)
/-- a block's end -/
def Blk (id : Nat) (Q : Post) : Post := fun e τ ds S => match e with
  | .normal => Q .normal τ ds S
  | .exit id' => if id' = id then Q .normal τ ds S else Q (.exit id') τ ds S
  | .ret => Q .ret τ ds S
theorem Blk_normal {id : Nat} : Blk id Q .normal τ ds S = Q .normal τ ds S := rfl
theorem Blk_exit {id id' : Nat} : Blk id Q (.exit id') τ ds S = if id' = id then Q .normal τ ds S else Q (.exit id') τ ds S := rfl
theorem Blk_ret {id : Nat} : Blk id Q .ret τ ds S = Q .ret τ ds S := rfl
theorem W_block {id : Nat} {c : Code} (h : W P n ro c τ ds S (Blk id Q)) : W P n ro (.block id c) τ ds S Q := by
  obtain ⟨e, τ', ds', S', h1, h2⟩ := h
  have key : ∀ e2 : AExit, (∀ a w (R : Exit → Act → World → Prop), R e2.to a w → Exit.inBlock id R e.to a w) → W P n ro (.block id c) τ ds S (fun e τ2 ds2 S2 => e = e2 ∧ τ2 = τ' ∧ ds2 = ds' ∧ S2 = S') := by
    intro e2 he
    refine ⟨e2, τ', ds', S', ?_, rfl, rfl, rfl, rfl⟩
    intro w0 E w a ro' m R hro hS ht hd hQ
    exact wpIn_block (h1 hro hS ht hd fun E1 a1 w1 hE1 hS1 ht1 hd1 hk1 hz1 => he a1 w1 R (hQ E1 a1 w1 hE1 hS1 ht1 hd1 hk1 hz1))
  cases e with
  | normal =>
    refine (key .normal fun a w R hR => hR).mono ?_
    rintro e τ ds S ⟨rfl, rfl, rfl, rfl⟩
    exact h2
  | exit id' =>
    by_cases he : id' = id
    · refine (key .normal fun a w R hR => ?_).mono ?_
      · show Exit.inBlock id R (.exit id') a w
        unfold Exit.inBlock
        simp only [he, if_true]
        exact hR
      · rintro e τ ds S ⟨rfl, rfl, rfl, rfl⟩
        have h3 : (if id' = id then Q .normal τ ds S else Q (.exit id') τ ds S) := h2
        rw [if_pos he] at h3
        exact h3
    · refine (key (.exit id') fun a w R hR => ?_).mono ?_
      · show Exit.inBlock id R (.exit id') a w
        unfold Exit.inBlock
        simp only [he, if_false]
        exact hR
      · rintro e τ ds S ⟨rfl, rfl, rfl, rfl⟩
        have h3 : (if id' = id then Q .normal τ ds S else Q (.exit id') τ ds S) := h2
        rw [if_neg he] at h3
        exact h3
  | ret =>
    refine (key .ret fun a w R hR => hR).mono ?_
    rintro e τ ds S ⟨rfl, rfl, rfl, rfl⟩
    exact h2
theorem W_scope {c : Code} (h : W P n ro c τ ds S Q) : W P n ro (.scope c) τ ds S Q := by
  obtain ⟨e, τ', ds', S', h1, h2⟩ := h
  refine ⟨e, τ', ds', S', ?_, h2⟩
  intro w0 E w a ro' m R hro hS ht hd hQ
  refine wpIn_scope (h1 hro hS ht hd ?_)
  intro E1 a1 w1 hE1 hS1 ht1 hd1 hk1 hz1
  exact ⟨fun l hl => (by cases e <;> cases hl), hQ E1 a1 w1 hE1 hS1 ht1 hd1 hk1 hz1⟩

/-- a loop, by a measure -/
theorem W_loop {c : Code} (I : Nat → (Nat → Value) → List Nat → St → Prop) (m : Nat) (h0 : I m τ ds S)
    (hstep : ∀ m τ ds S, I m τ ds S → W P n ro c τ ds S (fun e τ' ds' S' => match e with
      | .normal => ∃ m', m' < m ∧ I m' τ' ds' S'
      | .exit id => Q (.exit id) τ' ds' S'
      | .ret => Q .ret τ' ds' S')) : W P n ro (.loop c) τ ds S Q := by
  have key : ∀ (m : Nat) (τ : Nat → Value) (ds : List Nat) (S : St), I m τ ds S → ∃ e τ' ds' S' k, (∀ {w0 : Base} {E : Env} {w : World} {a : Act} {ro' : Option Nat} {q : Nat} {R : Exit → Act → World → Prop}, RoR E ro ro' → SR w0 E S w → VRs E (tl n τ) a.tmps.toList → DsR E ds a.defers →
      (∀ E' a' w', E.le E' → SR w0 E' S' w' → VRs E' (tl n τ') a'.tmps.toList → DsR E' ds' a'.defers → Keeps S S' → w.heap.size ≤ w'.heap.size → R e.to a' w') →
      Code.roundsIn (fence ro') q P c R k a w) ∧ Q e τ' ds' S' := by
    intro m
    induction m using Nat.strongRecOn with
    | _ m ih =>
      intro τ ds S hI
      obtain ⟨e, τ1, ds1, S1, h1, h2⟩ := hstep m τ ds S hI
      cases e with
      | normal =>
        obtain ⟨m', hm, hI'⟩ := h2
        obtain ⟨e2, τ2, ds2, S2, k, h3, h4⟩ := ih m' hm τ1 ds1 S1 hI'
        refine ⟨e2, τ2, ds2, S2, k + 1, ?_, h4⟩
        intro w0 E w a ro' q R hro hS ht hd hQ
        rw [roundsIn_succ]
        refine h1 hro hS ht hd ?_
        intro E1 a1 w1 hE1 hS1 ht1 hd1 hk1 hz1
        refine h3 (hro.mono hE1) hS1 ht1 hd1 ?_
        intro E2 a2 w2 hE2 hS2 ht2 hd2 hk2 hz2
        exact hQ E2 a2 w2 (hE1.trans hE2) hS2 ht2 hd2 (hk1.trans hk2) (Nat.le_trans hz1 hz2)
      | exit id =>
        refine ⟨.exit id, τ1, ds1, S1, 1, ?_, h2⟩
        intro w0 E w a ro' q R hro hS ht hd hQ
        rw [roundsIn_succ]
        exact h1 hro hS ht hd fun E1 a1 w1 hE1 hS1 ht1 hd1 hk1 hz1 => hQ E1 a1 w1 hE1 hS1 ht1 hd1 hk1 hz1
      | ret =>
        refine ⟨.ret, τ1, ds1, S1, 1, ?_, h2⟩
        intro w0 E w a ro' q R hro hS ht hd hQ
        rw [roundsIn_succ]
        exact h1 hro hS ht hd fun E1 a1 w1 hE1 hS1 ht1 hd1 hk1 hz1 => hQ E1 a1 w1 hE1 hS1 ht1 hd1 hk1 hz1
  obtain ⟨e, τ', ds', S', k, h1, h2⟩ := key m τ ds S h0
  refine ⟨e, τ', ds', S', ?_, h2⟩
  intro w0 E w a ro' q R hro hS ht hd hQ
  exact wpIn_loop_rounds k (h1 hro hS ht hd hQ)

/-! ## operations along the text -/
def OpsW (P : Program) (n : Nat) (ro : Option Nat) (ops : Array Oper) (l : List Nat) (τ : Nat → Value) (ds : List Nat) (S : St) (K : (Nat → Value) → St → Prop) : Prop :=
  ∃ τ' S', OpsIs P ro ops l (tl n τ) ds S (tl n τ') S' ∧ K τ' S'
theorem W_region {id : Nat} {ops : Array Oper} (h : OpsW P n ro ops (List.range ops.size) τ ds S (fun τ S => Q .normal τ ds S)) : W P n ro (.region id ops false) τ ds S Q := by
  obtain ⟨τ', S', h1, h2⟩ := h
  exact ⟨.normal, τ', ds, S', fun hro hS ht hd hQ => wpIn_region (h1 hro hS ht hd hQ), h2⟩
theorem OpsW_nil {ops : Array Oper} {K : (Nat → Value) → St → Prop} (h : K τ S) : OpsW P n ro ops [] τ ds S K :=
  ⟨τ, S, fun _ hS ht hd hQ => hQ _ _ _ (.refl _) hS ht hd (.refl S) (Nat.le_refl _), h⟩
theorem OpsW_step (hT : TabOK P T) {G : Fns} (hG : OK P G) {ops : Array Oper} {i : Nat} {l : List Nat} {o : Oper} {v : Value} {s : Option St} {K : (Nat → Value) → St → Prop} (ho : ops[i]? = some o)
    (hw : Region.wanted o (yieldedA ops (tl n τ)) = true) (hs : stepOp G P T (tl n τ) S o = some [(v, s)]) (h : OpsW P n ro ops l (updO τ o.dst v) ds (s.getD S) K) : OpsW P n ro ops (i :: l) τ ds S K := by
  obtain ⟨τ', S', h1, h2⟩ := h
  refine ⟨τ', S', ?_, h2⟩
  intro w0 E w a ro' m R hro hS ht hd hQ
  rw [wpOpsIn_cons]
  unfold wpOpIn
  rw [ho]
  simp only
  have hw' : Region.wanted o (yielded ops a.tmps) = true := by
    have : yielded ops a.tmps = yieldedA ops (tl n τ) := funext fun j => yielded_rel ht j
    rw [this]; exact hw
  rw [if_pos hw']
  refine step_ok hT hG hs hS ht ?_
  intro r hr E' v' w' hE hS' hv hk hz
  rw [List.mem_singleton] at hr
  subst hr
  refine h1 (hro.mono hE) hS' (by rw [← tl_put]; exact put_rel (ht.mono hE) o.dst hv) (by cases o.dst <;> exact hd.mono hE) ?_
  intro E2 a2 w2 hE2 hS2 ht2 hd2 hk2 hz2
  exact hQ E2 a2 w2 (hE.trans hE2) hS2 ht2 hd2 (hk.trans hk2) (Nat.le_trans hz hz2)
theorem OpsW_skip {ops : Array Oper} {i : Nat} {l : List Nat} {o : Oper} {K : (Nat → Value) → St → Prop} (ho : ops[i]? = some o)
    (hw : Region.wanted o (yieldedA ops (tl n τ)) = false) (h : OpsW P n ro ops l (updO τ o.dst undef) ds S K) : OpsW P n ro ops (i :: l) τ ds S K := by
  obtain ⟨τ', S', h1, h2⟩ := h
  refine ⟨τ', S', ?_, h2⟩
  intro w0 E w a ro' m R hro hS ht hd hQ
  rw [wpOpsIn_cons]
  unfold wpOpIn
  rw [ho]
  simp only
  have hw' : Region.wanted o (yielded ops a.tmps) = false := by
    have : yielded ops a.tmps = yieldedA ops (tl n τ) := funext fun j => yielded_rel ht j
    rw [this]; exact hw
  rw [if_neg (by rw [hw']; simp)]
  exact ⟨about_trivial, h1 hro hS (by rw [← tl_put]; exact put_rel ht o.dst (.tuple .nil)) (by cases o.dst <;> exact hd) hQ⟩
/-- nothing is known of any call -/
noncomputable def G0 : Fns := { call := fun _ _ _ => none, code := fun _ _ _ _ _ => none }
theorem G0_ok : OK P G0 := ⟨fun h => (by cases h), fun h => (by cases h)⟩
/-- one call is known -/
noncomputable def G1 (f0 : FuncId) (args0 : List Value) (S0 : St) (v : Value) (S' : St) : Fns :=
  { call := fun f args S => open Classical in if f = f0 ∧ args = args0 ∧ S = S0 then some [(v, some S')] else none, code := fun _ _ _ _ _ => none }
theorem G1_ok {f : FuncId} {args : List Value} {S : St} {v : Value} {S' : St} (h : CallIs P f args S [(v, some S')]) : OK P (G1 f args S v S') := by
  refine ⟨?_, fun h => (by cases h)⟩
  intro f2 args2 S2 outs hx
  simp only [G1] at hx
  split at hx
  · rename_i hc
    obtain ⟨rfl, rfl, rfl⟩ := hc
    cases hx
    exact h
  · cases hx
theorem G1_call {f : FuncId} {args : List Value} {S : St} {v : Value} {S' : St} : (G1 f args S v S').call f args S = some [(v, some S')] := by simp [G1]
/-- what is called: a function, or the rounds of a loop over a function -/
inductive Cal where
  | f (g : FuncId)
  | y (l : Nat)
noncomputable def calA (G : Fns) (c : Cal) (vs : List Value) (S : St) : Option (List (Value × Option St)) := match c with
  | .f g => G.call g vs S
  | .y l => yieldA G l vs S
def CallC (P : Program) (c : Cal) (vs : List Value) (S : St) (Q : Value → St → Prop) : Prop := ∃ G v S', OK P G ∧ calA G c vs S = some [(v, some S')] ∧ Q v S'
theorem CallW.toC {f : FuncId} {args : List Value} {S : St} {Q : Value → St → Prop} (h : CallW P f args S Q) : CallC P (.f f) args S Q := by
  obtain ⟨v, S', h1, h2⟩ := h
  exact ⟨_, v, S', G1_ok h1, G1_call, h2⟩
theorem CallC.mono {c : Cal} {args : List Value} {S : St} {Q Q' : Value → St → Prop} (h : CallC P c args S Q) (hq : ∀ v S', Q v S' → Q' v S') : CallC P c args S Q' := by
  obtain ⟨G, v, S', h0, h1, h2⟩ := h
  exact ⟨G, v, S', h0, h1, hq _ _ h2⟩
end
end Go.Ax
end
/- part Wb -/
section
/- The walk along the text of a region, in simp's own steps. -/
namespace Go.Ax
open Go.RowKit

section
variable {P : Program} {T : Tab} {n : Nat} {ro : Option Nat} {τ : Nat → Value} {ds : List Nat} {S : St} {Q : Post}

/-! ## values of pure operations -/
theorem plain_int (k : IntKind) (z : Int) : plain (.int k z) = true := Eq.trans rfl rfl
theorem plain_bool (b : Bool) : plain (.bool b) = true := Eq.trans rfl rfl
theorem plain_string (s : ByteArray) : plain (.string s) = true := Eq.trans rfl rfl
theorem plain_slnil (l c : Nat) : plain (.slice none l c) = true := Eq.trans rfl rfl
theorem plain_nilFunc : plain .nilFunc = true := Eq.trans rfl rfl
theorem plain_pnil : plain (.pointer none) = true := Eq.trans rfl rfl
theorem plain_mnil : plain (.map none) = true := Eq.trans rfl rfl
theorem onev_some (v : Value) : onev S (some v) = some [(v, S)] := Eq.trans rfl rfl
theorem one_some (r : Value × St) : one (some r) = some [r] := Eq.trans rfl rfl
theorem oneu_some (S' : St) : oneu (some S') = some [(undef, S')] := Eq.trans rfl rfl

noncomputable def intBin (k : IntKind) (op : BinOp) (a b : Int) : Option Value :=
  match op with
  | .add => some (.int k (k.wrap (a + b)))
  | .sub => some (.int k (k.wrap (a - b)))
  | .mul => some (.int k (k.wrap (a * b)))
  | .quo => if b = 0 then none else some (.int k (k.wrap (a.tdiv b)))
  | .rem => if b = 0 then none else some (.int k (a.tmod b))
  | .eql => some (.bool (a == b))
  | .neq => some (.bool (a != b))
  | .lss => some (.bool (decide (a < b)))
  | .leq => some (.bool (decide (a ≤ b)))
  | .gtr => some (.bool (decide (a > b)))
  | .geq => some (.bool (decide (a ≥ b)))
  | _ => none
noncomputable def binAx (P : Program) (T : Tab) (n : Nat) (τ : Nat → Value) (o : Oper) (op : BinOp) (t : TypeId) (x y : Operand) : Option Value := binA P T (tl n τ) o op t x y
noncomputable def pureAx (P : Program) (n : Nat) (τ : Nat → Value) (o : Oper) : Option Value := pureOpA P (tl n τ) o
theorem pureRun_pure {α : Type} (P : Program) (a : α) : pureRun P (pure a : Sem α) = some a := Eq.trans rfl rfl
theorem pureRun_bind {α β : Type} (P : Program) (s : Sem α) (f : α → Sem β) : pureRun P (s >>= f) = (pureRun P s).bind fun a => pureRun P (f a) := by
  show pureRun P (Sem.bind s f) = _
  induction s with
  | pure a => rfl
  | program k ih => exact ih _
  | mark m k ih => exact ih
  | _ => rfl
theorem pureRun_ite {α : Type} (P : Program) (c : Prop) [Decidable c] (s t : Sem α) : pureRun P (if c then s else t) = if c then pureRun P s else pureRun P t := by split <;> rfl
/-- an operation upon plain values -/
noncomputable def binP (P : Program) (op : BinOp) (t : TypeId) (vx vy : Value) : Option Value :=
  if plain vx && plain vy then
    match pureRun P (do eqGuard op t (.tmp 0) (.tmp 0) vx vy; binOp op t vx vy) with
    | some v => if plain v then some v else none
    | none => none
  else none
noncomputable def binV (P : Program) (T : Tab) (n : Nat) (τ : Nat → Value) (o : Oper) (op : BinOp) (t : TypeId) (x y : Operand) : Option Value → Option Value → Option Value
  | some (.int k a), some (.int k' b) => if k = k' ∧ (intBin k op a b).isSome = true then intBin k op a b else binAx P T n τ o op t x y
  | some (.agg a), some (.agg b) => binP P op t (.agg a) (.agg b)
  | some (.bool a), some (.bool b) => binP P op t (.bool a) (.bool b)
  | some (.string a), some (.string b) => binP P op t (.string a) (.string b)
  | _, _ => binAx P T n τ o op t x y
theorem nilEqA_int {t : TypeId} {k k' : IntKind} {a b : Int} : nilEqA T t (.int k a) (.int k' b) = none := by
  unfold nilEqA
  split <;> first | rfl | (rename_i h1 h2; cases h2) | (rename_i h1 h2 h3; cases h2) | skip
theorem nilEqA_agg {t : TypeId} {a b : Array Value} : nilEqA T t (.agg a) (.agg b) = none := by
  unfold nilEqA
  split <;> first | rfl | (rename_i h1 h2; cases h2) | (rename_i h1 h2 h3; cases h2) | skip
theorem nilEqA_bool {t : TypeId} {a b : Bool} : nilEqA T t (.bool a) (.bool b) = none := by
  unfold nilEqA
  split <;> first | rfl | (rename_i h1 h2; cases h2) | (rename_i h1 h2 h3; cases h2) | skip
theorem nilEqA_string {t : TypeId} {a b : ByteArray} : nilEqA T t (.string a) (.string b) = none := by
  unfold nilEqA
  split <;> first | rfl | (rename_i h1 h2; cases h2) | (rename_i h1 h2 h3; cases h2) | skip
theorem evalD_eq {ts : List Value} {x : Operand} {v : Value} (h : evalA ts x = some v) : evalD ts x = v := by unfold evalD; rw [h]; rfl
theorem binP_eq {o : Oper} {op : BinOp} {t ty : TypeId} {x y : Operand} {vx vy : Value} (ho : o.op = .binOp op t x y ty) (hx : evalA (tl n τ) x = some vx) (hy : evalA (tl n τ) y = some vy) (hn : nilEqA T t vx vy = none)
    (hg : ∀ x y x' y' : Operand, eqGuard op t x y vx vy = eqGuard op t x' y' vx vy) : binA P T (tl n τ) o op t x y = binP P op t vx vy := by
  unfold binA
  rw [hx, hy]
  simp only [hn]
  unfold pureOpA binP
  have hs : isSelect o.op = false := by rw [ho]; rfl
  have hp : plainOps (tl n τ) o = (plain vx && plain vy) := by
    unfold plainOps
    rw [ho]
    simp only [Op.operands, List.all_cons, List.all_nil, hx, hy, Bool.and_true]
  rw [hp, hs]
  simp only [Bool.not_false, Bool.and_true]
  split
  case isFalse => rfl
  case isTrue =>
    have hexec : pureRun P (execOp (evalD (tl n τ)) o) = (pureRun P (do eqGuard op t (.tmp 0) (.tmp 0) vx vy; binOp op t vx vy)).map Next.value := by
      unfold execOp
      rw [ho]
      simp only [evalD_eq hx, evalD_eq hy]
      rw [hg x y (.tmp 0) (.tmp 0), pureRun_bind]
      cases pureRun P (do eqGuard op t (.tmp 0) (.tmp 0) vx vy; binOp op t vx vy) <;> rfl
    rw [hexec]
    cases pureRun P (do eqGuard op t (.tmp 0) (.tmp 0) vx vy; binOp op t vx vy) <;> rfl
theorem binA_eq (o : Oper) {op : BinOp} {t ty : TypeId} {x y : Operand} (ho : o.op = .binOp op t x y ty) : binA P T (tl n τ) o op t x y = binV P T n τ o op t x y (evalA (tl n τ) x) (evalA (tl n τ) y) := by
  unfold binV
  split
  case h_5 => rfl
  case h_2 a b hx hy => exact binP_eq ho hx hy nilEqA_agg (fun _ _ _ _ => rfl)
  case h_3 a b hx hy => exact binP_eq ho hx hy nilEqA_bool (fun _ _ _ _ => rfl)
  case h_4 a b hx hy => exact binP_eq ho hx hy nilEqA_string (fun _ _ _ _ => rfl)
  case h_1 k a k' b hx hy =>
    split
    case isFalse => rfl
    case isTrue hc =>
      obtain ⟨rfl, hc⟩ := hc
      unfold binA
      rw [hx, hy]
      simp only [nilEqA_int]
      unfold pureOpA
      have hp : plainOps (tl n τ) o = true := by
        unfold plainOps
        rw [ho]
        simp only [Op.operands, List.all_cons, List.all_nil, hx, hy, plain_int, Bool.and_self]
      have hs : isSelect o.op = false := by rw [ho]; rfl
      rw [hp, hs]
      simp only [Bool.not_false, Bool.and_self, if_true]
      have hexec : pureRun P (execOp (evalD (tl n τ)) o) = (intBin k op a b).map Next.value := by
        unfold execOp
        rw [ho]
        simp only [evalD_eq hx, evalD_eq hy]
        cases op <;> first
          | (simp [intBin] at hc; done)
          | (simp only [binOp, ne_eq, not_true_eq_false, if_false]; rfl)
          | (simp only [intBin] at hc ⊢
             split at hc
             · cases hc
             · rename_i hb
               simp only [binOp, ne_eq, not_true_eq_false, if_false, Op.intDiv, hb]
               rfl)
      rw [hexec]
      cases hr : intBin k op a b with
      | none => rw [hr] at hc; cases hc
      | some v =>
        simp only [Option.map_some]
        have hpl : plain v = true := by
          cases op <;> simp only [intBin] at hr <;> first
            | (cases hr; rfl)
            | (split at hr
               · cases hr
               · cases hr; rfl)
            | cases hr
        rw [if_pos hpl]

noncomputable def unV (P : Program) (n : Nat) (τ : Nat → Value) (o : Oper) (op : UnOp) : Option Value → Option Value
  | some (.bool b) => (match op with | .not => some (.bool !b) | _ => pureAx P n τ o)
  | some (.int k a) => (match op with | .neg => some (.int k (k.wrap (0 - a))) | _ => pureAx P n τ o)
  | _ => pureAx P n τ o
theorem pureOp_of {o : Oper} {v : Value} (hp : plainOps (tl n τ) o = true) (hs : isSelect o.op = false) (hexec : pureRun P (execOp (evalD (tl n τ)) o) = some (.value v)) (hpl : plain v = true) : pureOpA P (tl n τ) o = some v := by
  unfold pureOpA
  rw [hp, hs]
  simp only [Bool.not_false, Bool.and_self, if_true]
  rw [hexec]
  simp only
  rw [if_pos hpl]
theorem unA_eq (o : Oper) {op : UnOp} {t : TypeId} {x : Operand} (ho : o.op = .unOp op t x) : pureOpA P (tl n τ) o = unV P n τ o op (evalA (tl n τ) x) := by
  have hs : isSelect o.op = false := by rw [ho]; rfl
  have hp : ∀ {v : Value}, evalA (tl n τ) x = some v → plain v = true → plainOps (tl n τ) o = true := by
    intro v hx hv
    unfold plainOps
    rw [ho]
    simp only [Op.operands, List.all_cons, List.all_nil, hx, hv, Bool.and_self]
  unfold unV
  split
  case h_1 b hx =>
    split
    case h_2 => rfl
    case h_1 =>
      refine pureOp_of (hp hx rfl) hs ?_ rfl
      unfold execOp
      rw [ho]
      simp only [evalD_eq hx]
      rfl
  case h_2 k a hx =>
    split
    case h_2 => rfl
    case h_1 =>
      refine pureOp_of (hp hx rfl) hs ?_ rfl
      unfold execOp
      rw [ho]
      simp only [evalD_eq hx]
      rfl
  case h_3 => rfl
noncomputable def mmV (P : Program) (n : Nat) (τ : Nat → Value) (o : Oper) (mx : Bool) : Option Value → Option Value → Option Value
  | some (.int k a), some (.int _ b) => some (.int k (if mx then max a b else min a b))
  | _, _ => pureAx P n τ o
theorem mm_eq (o : Oper) {bb : Builtin} {x y : Operand} {t : Array TypeId} (hbb : bb = .min ∨ bb = .max) (ho : o.op = .call { callee := .builtin bb, args := #[x, y], argTypes := t }) :
    pureOpA P (tl n τ) o = mmV P n τ o (match bb with | .max => true | _ => false) (evalA (tl n τ) x) (evalA (tl n τ) y) := by
  unfold mmV
  split
  case h_2 => rfl
  case h_1 k a k' b hx hy =>
    have hs : isSelect o.op = false := by rw [ho]; rfl
    obtain ⟨cs, hcs⟩ := exec_builtin (ρ := evalD (tl n τ)) ho
    refine pureOp_of ?_ hs ?_ rfl
    · unfold plainOps
      rw [ho]
      simp [Op.operands, Call.operands, hx, hy, plain_int]
    · rw [hcs]
      rcases hbb with rfl | rfl
      · have e : (if (b < a) then b else a) = min a b := by
          rw [Int.min_def]; split <;> split <;> omega
        simp only [List.map_toArray, List.map_cons, List.map_nil, evalD_eq hx, evalD_eq hy, Bool.false_eq_true, if_false, ← e]
        rfl
      · have e : (if (a < b) then b else a) = max a b := by
          rw [Int.max_def]; split <;> split <;> omega
        simp only [List.map_toArray, List.map_cons, List.map_nil, evalD_eq hx, evalD_eq hy, if_true, ← e]
        rfl

variable {gd : Option (Nat × Bool)} {d0 : Option Tmp} {ty0 : TypeId} {p0 : String} {af0 : Array Edge}
theorem bin_eq {op : BinOp} {t u : TypeId} {x y : Operand} : binA P T (tl n τ) { dst := d0, op := .binOp op t x y u, type := ty0, pos := p0, after := af0, guard := gd } op t x y =
    binV P T n τ { dst := d0, op := .binOp op t x y u, type := ty0, pos := p0, after := af0, guard := gd } op t x y (evalA (tl n τ) x) (evalA (tl n τ) y) := binA_eq _ rfl
theorem un_eq {op : UnOp} {t : TypeId} {x : Operand} : pureOpA P (tl n τ) { dst := d0, op := .unOp op t x, type := ty0, pos := p0, after := af0, guard := gd } =
    unV P n τ { dst := d0, op := .unOp op t x, type := ty0, pos := p0, after := af0, guard := gd } op (evalA (tl n τ) x) := unA_eq _ rfl
theorem min_eq {x y : Operand} {t : Array TypeId} : pureOpA P (tl n τ) { dst := d0, op := .call { callee := .builtin .min, args := #[x, y], argTypes := t }, type := ty0, pos := p0, after := af0, guard := gd } =
    mmV P n τ { dst := d0, op := .call { callee := .builtin .min, args := #[x, y], argTypes := t }, type := ty0, pos := p0, after := af0, guard := gd } false (evalA (tl n τ) x) (evalA (tl n τ) y) := mm_eq _ (.inl rfl) rfl
theorem max_eq {x y : Operand} {t : Array TypeId} : pureOpA P (tl n τ) { dst := d0, op := .call { callee := .builtin .max, args := #[x, y], argTypes := t }, type := ty0, pos := p0, after := af0, guard := gd } =
    mmV P n τ { dst := d0, op := .call { callee := .builtin .max, args := #[x, y], argTypes := t }, type := ty0, pos := p0, after := af0, guard := gd } true (evalA (tl n τ) x) (evalA (tl n τ) y) := mm_eq _ (.inr rfl) rfl

/-! ## the walk along a list of operations -/
noncomputable def calleeV (n : Nat) (τ : Nat → Value) : Op → Option (Cal × List Value)
  | .call { callee := .value f, args, .. } => (match evalA (tl n τ) f, evalsA (tl n τ) args.toList with
    | some (.func (.func g) xs ys), some vs => some (.f g, xs.toList ++ vs ++ ys.toList)
    | some (.func (.yield l) xs _), some vs => some (.y l, xs.toList ++ vs)
    | _, _ => none)
  | _ => none
theorem calleeV_step {G : Fns} {n : Nat} {τ : Nat → Value} {o : Oper} {g : Cal} {vs : List Value} (h : calleeV n τ o.op = some (g, vs)) : stepOp G P T (tl n τ) S o = calA G g vs S ∧ ∃ f args at', o.op = .call { callee := .value f, args := args, argTypes := at' } := by
  unfold calleeV at h
  split at h
  case h_2 => cases h
  case h_1 f args at' hop =>
    refine ⟨?_, f, args, at', hop⟩
    unfold stepOp
    rw [hop]
    split at h
    · rename_i hf hvs
      cases h
      simp only [hf, hvs]
      rfl
    · rename_i hf hvs
      cases h
      simp only [hf, hvs]
      rfl
    · cases h
theorem calleeV_call {n : Nat} {τ : Nat → Value} {op : Op} {g : Cal} {vs : List Value} (h : calleeV n τ op = some (g, vs)) : isCallV op = true := by
  unfold calleeV at h
  split at h
  case h_2 => cases h
  case h_1 => rfl
/-- what a call comes to -/
abbrev CS := Cal → List Value → St → (Value → St → Prop) → Prop
variable {C : CS}
def VL (C : CS) (P : Program) (T : Tab) (n : Nat) (ops : Array Oper) : List Oper → (Nat → Value) → St → ((Nat → Value) → St → Prop) → Prop
  | [], τ, S, K => K τ S
  | o :: l, τ, S, K =>
    if Region.wanted o (yieldedA ops (tl n τ)) = true then
      (match calleeV n τ o.op with
      | some (g, vs) => C g vs S (fun v S' => VL C P T n ops l (updO τ o.dst v) S' K)
      | none => (match aop P T (tl n τ) S o with
        | some [(v, S')] => VL C P T n ops l (updO τ o.dst v) S' K
        | _ => False))
    else VL C P T n ops l (updO τ o.dst undef) S K
theorem step_of_aop {ts : List Value} {o : Oper} {v : Value} {S' : St} (h : aop P T ts S o = some [(v, S')]) : ∃ s, stepOp G0 P T ts S o = some [(v, s)] ∧ s.getD S = S' := by
  have hc : ∀ f args at', o.op ≠ .call { callee := .value f, args, argTypes := at' } := by
    intro f args at' ho
    unfold aop at h
    rw [ho] at h
    cases h
  by_cases he : eff o.op = true
  · refine ⟨some S', ?_, rfl⟩
    unfold stepOp
    split
    · rename_i f args at' ho; exact absurd ho (hc _ _ _)
    · rw [if_pos he, h]; rfl
  · refine ⟨none, ?_, ?_⟩
    · unfold stepOp
      split
      · rename_i f args at' ho; exact absurd ho (hc _ _ _)
      · rw [if_neg he, h]; rfl
    · exact (aop_same (by simpa using he) h (v, S') (by simp)).symm
theorem VL_ops (hT : TabOK P T) {ops : Array Oper} {K : (Nat → Value) → St → Prop} : ∀ (l : List Oper) (i : Nat) {τ : Nat → Value} {S : St}, VL (CallC P) P T n ops l τ S K → ops.toList.drop i = l → OpsW P n ro ops (List.range' i l.length) τ ds S K := by
  intro l
  induction l with
  | nil => intro i τ S h _; exact OpsW_nil h
  | cons o l ih =>
    intro i τ S h hd
    have ho : ops[i]? = some o := by
      have := congrArg (fun x => x[0]?) hd
      simpa using this
    have hl : ops.toList.drop (i + 1) = l := by
      have := congrArg List.tail hd
      simpa using this
    simp only [VL] at h
    rw [List.length_cons, List.range'_succ]
    split at h
    case isFalse hw => exact OpsW_skip ho (by simpa using hw) (ih (i + 1) h hl)
    case isTrue hw =>
      split at h
      case h_1 g vs hcal =>
        obtain ⟨G, v, S', hG, h1, h2⟩ := h
        exact OpsW_step hT hG ho hw (v := v) (s := some S') ((calleeV_step hcal).1.trans h1) (ih (i + 1) h2 hl)
      case h_2 hcal =>
        split at h
        case h_2 => exact h.elim
        case h_1 v S' ha =>
          obtain ⟨s, h1, h2⟩ := step_of_aop ha
          exact OpsW_step hT G0_ok ho hw h1 (by rw [h2]; exact ih (i + 1) h hl)
def KN (Q : Post) (ds : List Nat) : (Nat → Value) → St → Prop := fun τ S => Q .normal τ ds S
theorem KN_apply : KN Q ds τ S = Q .normal τ ds S := Eq.trans rfl rfl
theorem W_regionV (hT : TabOK P T) {id : Nat} {ops : Array Oper} (h : VL (CallC P) P T n ops ops.toList τ S (KN Q ds)) : W P n ro (.region id ops false) τ ds S Q := by
  refine W_region ?_
  have := VL_ops (ro := ro) (ds := ds) hT ops.toList 0 h rfl
  rw [List.range_eq_range']
  rw [Array.length_toList] at this
  exact this

/-! in simp's steps -/
variable {ops : Array Oper} {K : (Nat → Value) → St → Prop} {d : Option Tmp} {op : Op} {ty : TypeId} {p : String} {af : Array Edge} {l : List Oper}
theorem VL_nil : VL C P T n ops [] τ S K = K τ S := Eq.trans rfl rfl
def VOp (C : CS) (P : Program) (T : Tab) (n : Nat) (ops : Array Oper) (d : Option Tmp) (l : List Oper) (τ : Nat → Value) (K : (Nat → Value) → St → Prop) : Option (List (Value × St)) → Prop
  | some [(v, S')] => VL C P T n ops l (updO τ d v) S' K
  | _ => False
theorem VOp_some {v : Value} {S' : St} : VOp C P T n ops d l τ K (some [(v, S')]) = VL C P T n ops l (updO τ d v) S' K := Eq.trans rfl rfl
def VCall (C : CS) (P : Program) (T : Tab) (n : Nat) (ops : Array Oper) (d : Option Tmp) (l : List Oper) (τ : Nat → Value) (S : St) (K : (Nat → Value) → St → Prop) (g : Cal) (vs : List Value) : Prop :=
  C g vs S (fun v S' => VL C P T n ops l (updO τ d v) S' K)
def VC (C : CS) (P : Program) (T : Tab) (n : Nat) (ops : Array Oper) (d : Option Tmp) (l : List Oper) (τ : Nat → Value) (S : St) (K : (Nat → Value) → St → Prop) : Option Value → Option (List Value) → Prop
  | some (.func (.func g) xs ys), some vs => VCall C P T n ops d l τ S K (.f g) (xs.toList ++ vs ++ ys.toList)
  | some (.func (.yield g) xs _), some vs => VCall C P T n ops d l τ S K (.y g) (xs.toList ++ vs)
  | _, _ => False
theorem VC_some {g : FuncId} {xs ys vs : List Value} : VC C P T n ops d l τ S K (some (.func (.func g) xs.toArray ys.toArray)) (some vs) = VCall C P T n ops d l τ S K (.f g) (xs ++ vs ++ ys) := Eq.trans rfl rfl
theorem VC_yield {g : Nat} {xs ys vs : List Value} : VC C P T n ops d l τ S K (some (.func (.yield g) xs.toArray ys.toArray)) (some vs) = VCall C P T n ops d l τ S K (.y g) (xs ++ vs) := Eq.trans rfl rfl
theorem VL_plain (h : isCallV op = false) : VL C P T n ops ({ dst := d, op := op, type := ty, pos := p, after := af, guard := none } :: l) τ S K = VOp C P T n ops d l τ K (aop P T (tl n τ) S { dst := d, op := op, type := ty, pos := p, after := af, guard := none }) := by
  have hc : calleeV n τ op = none := by
    unfold calleeV
    split
    · simp [isCallV] at h
    · rfl
  unfold VL
  simp only [Region.wanted, if_true, hc]
  unfold VOp
  split <;> rfl
theorem VL_call {f : Operand} {args : Array Operand} {at' : Array TypeId} (h : VC C P T n ops d l τ S K (evalA (tl n τ) f) (evalsA (tl n τ) args.toList)) :
    VL C P T n ops ({ dst := d, op := .call { callee := .value f, args := args, argTypes := at' }, type := ty, pos := p, after := af, guard := none } :: l) τ S K := by
  unfold VC at h
  split at h
  case h_3 => exact h.elim
  case h_1 g xs ys vs hf hvs =>
    unfold VL
    simp only [Region.wanted, if_true, calleeV, hf, hvs]
    exact h
  case h_2 g xs ys vs hf hvs =>
    unfold VL
    simp only [Region.wanted, if_true, calleeV, hf, hvs]
    exact h
theorem VL_call_eq {f : Operand} {args : Array Operand} {at' : Array TypeId} :
    VL C P T n ops ({ dst := d, op := .call { callee := .value f, args := args, argTypes := at' }, type := ty, pos := p, after := af, guard := none } :: l) τ S K = VC C P T n ops d l τ S K (evalA (tl n τ) f) (evalsA (tl n τ) args.toList) := by
  refine propext ⟨fun h => ?_, VL_call⟩
  unfold VL at h
  simp only [Region.wanted, if_true, calleeV] at h
  split at h
  case h_1 g vs hcal =>
    split at hcal
    case h_3 => cases hcal
    case h_1 g' xs ys vs' hf hvs =>
      cases hcal
      rw [hf, hvs]
      exact h
    case h_2 g' xs ys vs' hf hvs =>
      cases hcal
      rw [hf, hvs]
      exact h
  case h_2 => exact h.elim
def VX (C : CS) (P : Program) (T : Tab) (n : Nat) (ops : Array Oper) (d : Option Tmp) (op : Op) (ty : TypeId) (p : String) (af : Array Edge) (l : List Oper) (τ : Nat → Value) (S : St) (K : (Nat → Value) → St → Prop) : Bool → Prop
  | false => VOp C P T n ops d l τ K (aop P T (tl n τ) S { dst := d, op := op, type := ty, pos := p, after := af, guard := none })
  | true => VL C P T n ops ({ dst := d, op := op, type := ty, pos := p, after := af, guard := none } :: l) τ S K
theorem VL_none : VL C P T n ops ({ dst := d, op := op, type := ty, pos := p, after := af, guard := none } :: l) τ S K = VX C P T n ops d op ty p af l τ S K (isCallV op) := by
  cases h : isCallV op with
  | false => exact VL_plain h
  | true => rfl
theorem VX_false : VX C P T n ops d op ty p af l τ S K false = VOp C P T n ops d l τ K (aop P T (tl n τ) S { dst := d, op := op, type := ty, pos := p, after := af, guard := none }) := Eq.trans rfl rfl
theorem VX_call {f : Operand} {args : Array Operand} {at' : Array TypeId} :
    VX C P T n ops d (.call { callee := .value f, args := args, argTypes := at' }) ty p af l τ S K true = VC C P T n ops d l τ S K (evalA (tl n τ) f) (evalsA (tl n τ) args.toList) := VL_call_eq
/-- an operation behind a condition -/
def VG (C : CS) (P : Program) (T : Tab) (n : Nat) (ops : Array Oper) (o : Oper) (l : List Oper) (τ : Nat → Value) (S : St) (K : (Nat → Value) → St → Prop) (b : Bool) : Option Bool → Prop
  | some c => if c = b then VL C P T n ops (o :: l) τ S K else VL C P T n ops l (updO τ o.dst undef) S K
  | none => VL C P T n ops l (updO τ o.dst undef) S K
theorem aop_guard {ts : List Value} {g g' : Option (Nat × Bool)} : aop P T ts S { dst := d, op := op, type := ty, pos := p, after := af, guard := g } = aop P T ts S { dst := d, op := op, type := ty, pos := p, after := af, guard := g' } := Eq.trans rfl rfl
theorem VL_guard {j : Nat} {b : Bool} : VL C P T n ops ({ dst := d, op := op, type := ty, pos := p, after := af, guard := some (j, b) } :: l) τ S K =
    VG C P T n ops { dst := d, op := op, type := ty, pos := p, after := af, guard := none } l τ S K b (yieldedA ops (tl n τ) j) := by
  conv => lhs; unfold VL
  unfold VG
  simp only [Region.wanted]
  have hy : yieldedA ops (tl n τ) j = none ∨ ∃ c, yieldedA ops (tl n τ) j = some c := by
    cases yieldedA ops (tl n τ) j with
    | none => exact .inl rfl
    | some c => exact .inr ⟨c, rfl⟩
  rcases hy with hy | ⟨c, hy⟩
  · simp [hy]
  · simp only [hy]
    by_cases h : c = b
    · subst h
      simp only [beq_self_eq_true, if_true]
      conv => rhs; unfold VL
      simp only [Region.wanted, if_true, aop_guard (g := some (j, c)) (g' := none)]
    · rw [if_neg (by simpa using h), if_neg h]
theorem VG_some {o : Oper} {b c : Bool} : VG C P T n ops o l τ S K b (some c) = if c = b then VL C P T n ops (o :: l) τ S K else VL C P T n ops l (updO τ o.dst undef) S K := Eq.trans rfl rfl
noncomputable def gvV : Value → Option Bool
  | .bool b => some b
  | _ => none
theorem gvV_bool (b : Bool) : gvV (.bool b) = some b := Eq.trans rfl rfl
theorem gvV_undef : gvV undef = none := Eq.trans rfl rfl
theorem VG_none {o : Oper} {b : Bool} : VG C P T n ops o l τ S K b none = VL C P T n ops l (updO τ o.dst undef) S K := Eq.trans rfl rfl
noncomputable def gv (n : Nat) (τ : Nat → Value) : Option Tmp → Option Bool
  | some t => if t < n then gvV (τ t) else none
  | none => none
theorem yieldedA_tl {j : Nat} : yieldedA ops (tl n τ) j = gv n τ (dstAt ops j) := by
  unfold yieldedA gv dstAt
  cases (ops[j]?).bind (·.dst) with
  | none => rfl
  | some t =>
    simp only [Option.bind_some, lget_eq, tl_get]
    by_cases h : t < n
    · rw [if_pos h, if_pos h]
      cases τ t <;> rfl
    · rw [if_neg h, if_neg h]
theorem VCall_intro {g : FuncId} {vs : List Value} {R : Value → St → Prop} (h : CallW P g vs S R) (hk : ∀ v S', R v S' → VL (CallC P) P T n ops l (updO τ d v) S' K) : VCall (CallC P) P T n ops d l τ S K (.f g) vs := h.toC.mono hk
theorem VCallC_intro {g : Cal} {vs : List Value} {R : Value → St → Prop} (h : CallC P g vs S R) (hk : ∀ v S', R v S' → VL (CallC P) P T n ops l (updO τ d v) S' K) : VCall (CallC P) P T n ops d l τ S K g vs := h.mono hk

/-! which operations are calls -/
theorem ic_move (x : Operand) : isCallV (.move x) = false := Eq.trans rfl rfl
theorem ic_assign (x : Operand) : isCallV (.assign x) = false := Eq.trans rfl rfl
theorem ic_pick (c x y : Operand) : isCallV (.pick c x y) = false := Eq.trans rfl rfl
theorem ic_alloc (t : TypeId) : isCallV (.alloc t) = false := Eq.trans rfl rfl
theorem ic_box (t : TypeId) (x : Operand) : isCallV (.box t x) = false := Eq.trans rfl rfl
theorem ic_build (t : TypeId) (ps : Array (Nat × Operand)) : isCallV (.build t ps) = false := Eq.trans rfl rfl
theorem ic_buildSlice (t : TypeId) (m : Nat) (ps : Array (Nat × Operand)) : isCallV (.buildSlice t m ps) = false := Eq.trans rfl rfl
theorem ic_load (t : TypeId) (x : Operand) : isCallV (.load t x) = false := Eq.trans rfl rfl
theorem ic_store (t : TypeId) (x y : Operand) : isCallV (.store t x y) = false := Eq.trans rfl rfl
theorem ic_nilCheck (x : Operand) : isCallV (.nilCheck x) = false := Eq.trans rfl rfl
theorem ic_binOp (o : BinOp) (t : TypeId) (x y : Operand) (u : TypeId) : isCallV (.binOp o t x y u) = false := Eq.trans rfl rfl
theorem ic_unOp (o : UnOp) (t : TypeId) (x : Operand) : isCallV (.unOp o t x) = false := Eq.trans rfl rfl
theorem ic_convert (s t : TypeId) (x : Operand) : isCallV (.convert s t x) = false := Eq.trans rfl rfl
theorem ic_makeInterface (t : TypeId) (x : Operand) : isCallV (.makeInterface t x) = false := Eq.trans rfl rfl
theorem ic_makeFunc (f : Fn) (x y : Array Operand) : isCallV (.makeFunc f x y) = false := Eq.trans rfl rfl
theorem ic_makeMap (t : TypeId) (x : Option Operand) : isCallV (.makeMap t x) = false := Eq.trans rfl rfl
theorem ic_makeSlice (t : TypeId) (x y : Operand) : isCallV (.makeSlice t x y) = false := Eq.trans rfl rfl
theorem ic_slice (t : TypeId) (x : Operand) (a b c : Option Operand) : isCallV (.slice t x a b c) = false := Eq.trans rfl rfl
theorem ic_fieldAddr (t : TypeId) (x : Operand) (f : Nat) : isCallV (.fieldAddr t x f) = false := Eq.trans rfl rfl
theorem ic_field (t : TypeId) (x : Operand) (f : Nat) : isCallV (.field t x f) = false := Eq.trans rfl rfl
theorem ic_indexAddr (t : TypeId) (x y : Operand) : isCallV (.indexAddr t x y) = false := Eq.trans rfl rfl
theorem ic_index (t : TypeId) (x y : Operand) : isCallV (.index t x y) = false := Eq.trans rfl rfl
theorem ic_lookup (t : TypeId) (x y : Operand) (b : Bool) : isCallV (.lookup t x y b) = false := Eq.trans rfl rfl
theorem ic_mapUpdate (t : TypeId) (x y z : Operand) : isCallV (.mapUpdate t x y z) = false := Eq.trans rfl rfl
theorem ic_insert (t : TypeId) (x y z : Operand) : isCallV (.insert t x y z) = false := Eq.trans rfl rfl
theorem ic_extract (x : Operand) (i : Nat) : isCallV (.extract x i) = false := Eq.trans rfl rfl
theorem ic_value (f : Operand) (x : Array Operand) (t : Array TypeId) : isCallV (.call { callee := .value f, args := x, argTypes := t }) = true := Eq.trans rfl rfl
theorem ic_builtin (b : Builtin) (x : Array Operand) (t : Array TypeId) : isCallV (.call { callee := .builtin b, args := x, argTypes := t }) = false := Eq.trans rfl rfl

/-- a test -/
def VIf (P : Program) (n : Nat) (ro : Option Nat) (y z : Code) (τ : Nat → Value) (ds : List Nat) (S : St) (Q : Post) : Option Value → Prop
  | some (.bool b) => W P n ro (if b then y else z) τ ds S Q
  | _ => False
theorem W_condV {x : Operand} {y z : Code} (h : VIf P n ro y z τ ds S Q (evalA (tl n τ) x)) : W P n ro (.cond x y z) τ ds S Q := by
  unfold VIf at h
  split at h
  · rename_i b hx; exact W_cond hx h
  · exact h.elim
theorem VIf_true {y z : Code} : VIf P n ro y z τ ds S Q (some (.bool true)) = W P n ro y τ ds S Q := Eq.trans rfl rfl
theorem VIf_false {y z : Code} : VIf P n ro y z τ ds S Q (some (.bool false)) = W P n ro z τ ds S Q := Eq.trans rfl rfl
theorem VIf_split {y z : Code} {b : Bool} (h1 : b = true → W P n ro y τ ds S Q) (h2 : b = false → W P n ro z τ ds S Q) : VIf P n ro y z τ ds S Q (some (.bool b)) := by
  cases b
  · exact h2 rfl
  · exact h1 rfl
end
end Go.Ax
end
/- part Wc -/
section
/- A call, by the walk through its body; what is known of a store. -/
namespace Go.Ax
open Go.RowKit

section
variable {P : Program} {T : Tab} {n : Nat} {ro : Option Nat} {τ : Nat → Value} {ds : List Nat} {S : St} {Q : Post}

theorem tl_getD {t : Nat} : (tl n τ).getD t undef = if t < n then τ t else undef := by
  rw [List.getD_eq_getElem?_getD, tl_get]
  split <;> rfl
def RetV (Q : Value → St → Prop) (S : St) : Option (List Value) → Prop
  | some vs => Q (tupA vs) S
  | none => False
def RetQ (T : Tab) (n : Nat) (rs : List ResultVar) (Q : Value → St → Prop) : Post := fun e τ ds S => match e with
  | .exit _ => False
  | _ => match closeA ds S with
    | some S2 => RetV Q S2 (resA T S2 (tl n τ) rs)
    | none => False
theorem RetQ_ret {rs : List ResultVar} {R : Value → St → Prop} : RetQ T n rs R .ret τ [] S = RetV R S (resA T S (tl n τ) rs) := Eq.trans rfl rfl
theorem RetQ_normal {rs : List ResultVar} {R : Value → St → Prop} : RetQ T n rs R .normal τ [] S = RetV R S (resA T S (tl n τ) rs) := Eq.trans rfl rfl
theorem RetV_some {R : Value → St → Prop} {vs : List Value} : RetV R S (some vs) = R (tupA vs) S := Eq.trans rfl rfl
theorem resA_nil {ts : List Value} : resA T S ts [] = some [] := Eq.trans rfl rfl
theorem resA_tmp {ts : List Value} {t : Tmp} {l : List ResultVar} : resA T S ts (.tmp t :: l) = (resA T S ts l).map (ts.getD t undef :: ·) := by
  simp only [resA]
  cases resA T S ts l <;> rfl
theorem tupA_one (v : Value) : tupA [v] = v := Eq.trans rfl rfl
theorem tupA_two (v u : Value) (l : List Value) : tupA (v :: u :: l) = .tuple (v :: u :: l).toArray := Eq.trans rfl rfl
theorem tupA_nil : tupA [] = .tuple #[] := Eq.trans rfl rfl

theorem CallW_of (hT : TabOK P T) {f : FuncId} {fn : Func} {c : Code} {args : List Value} {R : Value → St → Prop} (hf : T.fn f = some fn) (hb : fn.body = some c) (hl : args.length ≤ fn.ntmps)
    (h : W P fn.ntmps none c (ofArgs args) [] S (RetQ T fn.ntmps fn.results.toList R)) : CallW P f args S R := by
  obtain ⟨e, τ', ds', S', h1, h2⟩ := h
  obtain ⟨k1, k2⟩ := hT.fn f fn hf
  have key : ∀ S2, closeA ds' S' = some S2 → ∀ vs, resA T S2 (tl fn.ntmps τ') fn.results.toList = some vs → (e = .normal ∨ e = .ret) → CallIs P f args S [(tupA vs, some S2)] := by
    intro S2 hcl vs hres he
    refine ⟨⟨fn, c, k1, k2, hb⟩, ?_⟩
    intro w0 E w args' m R' hS hv hR
    refine callsIn_of_wp_marks k1 hb trivial ?_
    refine h1 (w0 := w0) (ro' := none) (n := m) (Q := bodyPostM Fence.wide m P fn R') (a := { tmps := args'.toArray ++ Array.replicate (fn.ntmps - args'.toArray.size) undef, defers := [] }) .none hS (by
      rw [← tl_args _ _ hl, lapp_eq, lrep_eq]
      have e : (args'.toArray ++ Array.replicate (fn.ntmps - args'.toArray.size) undef).toList = args' ++ List.replicate (fn.ntmps - args.length) undef := by
        rw [hv.length]; simp
      rw [e]
      exact hv.append (VRs.replicate (.tuple .nil) _)) .nil ?_
    intro E1 a1 w1 hE1 hS1 ht1 hd1 hk1 hz1
    have key2 : LeavesInM Fence.wide m P fn a1.tmps R' a1.defers .returning w1 := by
      refine close_ok hcl hS1 hd1 ?_
      intro w2 hS2 hk2 hz2
      obtain ⟨vs', g1, g2⟩ := res_ok (P := P) hT hS2 ht1 hres
      refine ⟨if h : vs'.toArray.size = 1 then vs'.toArray[0] else .tuple vs'.toArray, ?_, ?_⟩
      · rw [results_eq, ← Array.toArray_toList (xs := fn.results), List.mapM_toArray]
        simp only [Sem.run_bind, Sem.run_map, g1, Result.andThen_ok, Sem.run_pure]
      · exact hR _ (List.mem_singleton.2 rfl) E1 _ w2 hE1 hS2 (tup_rel g2) (hk1.trans hk2) (Nat.le_trans hz1 hz2)
    rcases he with rfl | rfl
    · exact key2
    · exact key2
  have hx : ∃ S2 vs, closeA ds' S' = some S2 ∧ resA T S2 (tl fn.ntmps τ') fn.results.toList = some vs ∧ R (tupA vs) S2 ∧ (e = .normal ∨ e = .ret) := by
    have h3 : e ≠ .normal → e ≠ .ret → False := by
      intro g1 g2
      cases e with
      | normal => exact g1 rfl
      | ret => exact g2 rfl
      | exit id => exact h2
    have h4 : (match closeA ds' S' with | some S2 => RetV R S2 (resA T S2 (tl fn.ntmps τ') fn.results.toList) | none => False) ∧ (e = .normal ∨ e = .ret) := by
      cases e with
      | normal => exact ⟨h2, .inl rfl⟩
      | ret => exact ⟨h2, .inr rfl⟩
      | exit id => exact h2.elim
    obtain ⟨h5, h6⟩ := h4
    split at h5
    case h_2 => exact h5.elim
    case h_1 S2 hcl =>
      unfold RetV at h5
      split at h5
      case h_2 => exact h5.elim
      case h_1 vs hvs => exact ⟨S2, vs, hcl, hvs, h5, h6⟩
  obtain ⟨S2, vs, g1, g2, g3, g4⟩ := hx
  exact ⟨tupA vs, S2, key S2 g1 vs g2 g4, g3⟩

/-! what is known of a store -/
theorem push_n (o : AObj) : (S.push o).n = S.n + 1 := Eq.trans rfl rfl
theorem push_mono (o : AObj) : (S.push o).mono = S.mono := Eq.trans rfl rfl
theorem set_mono (i : Nat) (o : AObj) : (S.set i o).mono = S.mono := Eq.trans rfl rfl
theorem set_n (i : Nat) (o : AObj) : (S.set i o).n = S.n := Eq.trans rfl rfl
theorem ok_push_iff (o : AObj) : (S.push o).ok = S.ok := by
  unfold St.ok St.push
  simp
theorem ok_set_iff (i : Nat) (o : AObj) : (S.set i o).ok = S.ok := by
  unfold St.ok St.set
  rw [lset_eq]; simp
theorem get_push (o : AObj) (i : Nat) : (S.push o).get i = if i = S.n then some o else S.get i := by
  split
  · rename_i h; subst h; exact St.get_push_new S o
  · rename_i h
    rcases Nat.lt_or_ge i S.n with hlt | hge
    · exact St.get_push_old o hlt
    · rw [St.get_def, St.get_def]
      rw [if_neg (by unfold St.push; simp only; omega), if_neg (by omega)]
theorem get_push_new (o : AObj) {i : Nat} (h : i = S.n) : (S.push o).get i = some o := by rw [get_push, if_pos h]
theorem get_push_ne (o : AObj) {i : Nat} (h : i ≠ S.n) : (S.push o).get i = S.get i := by rw [get_push, if_neg h]
theorem get_set_ne (o : AObj) {i j : Nat} (hi : i < S.n) (h : j ≠ i) : (S.set i o).get j = S.get j := St.get_set_ne hi (fun e => h e.symm) o
theorem get_set_same (o : AObj) {i j : Nat} (hS : S.ok) (hi : i < S.n) (h : j = i) : (S.set i o).get j = some o := by subst h; exact St.get_set_same hS hi o
theorem lt_of_get {i : Nat} {o : AObj} (h : S.get i = some o) : i < S.n := St.get_lt h
/-- nothing that stood was turned -/
structure Ext (S S' : St) : Prop where
  ok : S'.ok
  n : S.n ≤ S'.n
  same : ∀ i, i < S.n → S'.get i = S.get i
  mono : S'.mono = S.mono
theorem Ext.refl (h : S.ok) : Ext S S := ⟨h, Nat.le_refl _, fun _ _ => rfl, rfl⟩
theorem Ext.trans {S' S'' : St} (h : Ext S S') (k : Ext S' S'') : Ext S S'' := ⟨k.ok, Nat.le_trans h.n k.n, fun i hi => (k.same i (Nat.lt_of_lt_of_le hi h.n)).trans (h.same i hi), k.mono.trans h.mono⟩
theorem Ext.push {S' : St} (h : Ext S S') (o : AObj) : Ext S (S'.push o) := ⟨by rw [ok_push_iff]; exact h.ok, by rw [push_n]; exact Nat.le_succ_of_le h.n, fun i hi => by rw [get_push_ne _ (by have := h.n; omega)]; exact h.same i hi, h.mono⟩
theorem Ext.set {S' : St} (h : Ext S S') {j : Nat} (o : AObj) (hj : S.n ≤ j) (hj' : j < S'.n) : Ext S (S'.set j o) := ⟨by rw [ok_set_iff]; exact h.ok, h.n, fun i hi => by rw [get_set_ne _ hj' (by omega)]; exact h.same i hi, h.mono⟩
theorem Ext.get {S' : St} (h : Ext S S') {i : Nat} {o : AObj} (hi : S.get i = some o) : S'.get i = some o := by rw [h.same i (lt_of_get hi), hi]
end
end Go.Ax
end
/- part Wv -/
section
/- A call on a store, from a world and its caller's values. -/
namespace Go.Ax
open Go.RowKit Go.Proofs Go.Lib
theorem VRs.of_all {E : Env} : ∀ {cs : List Value}, (∀ v ∈ cs, scalar v = true) → VRs E cs cs
  | [], _ => .nil
  | v :: vs, h => .cons (.sc (h v (by simp))) (VRs.of_all fun x hx => h x (by simp [hx]))
theorem Below.of_O {W : World} {own hole : Nat → Prop} {w : World} (h : BelowO ⟨W, own, hole⟩ w) : Below W.heap.size W w :=
  { os := h.os, tape := h.tape, output := h.output, size := h.size, block := h.block }

/-- a call on a store, from a world and its caller's values -/
theorem callW_start {P : Program} {f : FuncId} {args args' : List Value} {S : St} {own : Nat → Prop} {E : Env} {W : World} {Q : Value → Prop} (hS : SR ⟨W, own, fun _ => False⟩ E S W) (ha : VRs E args args') (h : CallW P f args S (fun v _ => ∃ u, plain u = true ∧ v = u ∧ Q u)) :
    Calls P f args'.toArray W fun e w' => ∃ u, e = .returned u ∧ Q u ∧ Below W.heap.size W w' := by
  obtain ⟨v, S', h1, u, hu, rfl, hQ⟩ := h
  refine (callsIn_wide (n := 1)).1 ?_
  refine h1.2 hS ha ?_
  intro r hr E' v' w' hE' hS' hv' hk hz
  rw [List.mem_singleton] at hr
  subst hr
  exact ⟨_, by rw [hv'.plain_eq hu], hQ, Below.of_O hS'.below⟩
end Go.Ax
end
/- part Wd -/
section
/- Regions that draw their order, walked along the text: where the text alone shows that the order does not matter. -/
namespace Go.Ax
open Go.RowKit

section
variable {P : Program} {T : Tab} {n : Nat} {ro : Option Nat} {τ : Nat → Value} {ds : List Nat} {S : St} {Q : Post}

noncomputable def drawStat (n : Nat) (ops : Array Oper) : Bool :=
  statOk ops && Nat.ble (topOf ops) n && (again ops).all (fun q => q.2.isEmpty) && (news ops).isEmpty && ops.toList.all (fun o => (allocOf o.op).isNone) && Nat.ble (ops.toList.filter (fun o => isCallV o.op)).length 1

theorem pre_none : ∀ (l : List Oper) (S : St), (l.all fun o => (allocOf o.op).isNone) = true → pre T l S = some (S, l.map fun _ => none) := by
  intro l
  induction l with
  | nil => intro S _; rfl
  | cons o l ih =>
    intro S h
    simp only [List.all_cons, Bool.and_eq_true] at h
    unfold pre
    rw [Option.isNone_iff_eq_none.1 h.1]
    simp only [ih S h.2, List.map_cons]
theorem stepOp_G0 {G : Fns} {ts : List Value} {o : Oper} (h : isCallV o.op = false) : stepOp G P T ts S o = stepOp G0 P T ts S o := by
  unfold stepOp
  split
  · rename_i f args at' ho; rw [ho] at h; simp [isCallV] at h
  · rfl
theorem getD_none (l : List Oper) (i : Nat) : (l.map fun _ => (none : Option Nat)).getD i none = none := by
  rw [List.getD_eq_getElem?_getD, List.getElem?_map]
  cases l[i]? <;> rfl

/-- one operation of the walk -/
theorem canon_plain {ops : Array Oper} {hs : List (Option Nat)} (hhs : ∀ i, hs.getD i none = none) (hal : (ops.toList.all fun o => (allocOf o.op).isNone) = true) {K : (Nat → Value) → St → Prop} : ∀ (l : List Oper) (i : Nat) {τ : Nat → Value} {S : St}, VL (CallC P) P T n ops l τ S K → ops.toList.drop i = l →
    (l.filter (fun o => isCallV o.op)).length ≤ 1 → ∃ G, OK P G ∧ ((l.filter (fun o => isCallV o.op)).length = 0 → G = G0) ∧ ∃ R τ' S', canon G P T hs ops i l (tl n τ) S = some (R, tl n τ', S') ∧ R.length = l.length ∧ entsOk ops i R = true ∧ K τ' S' := by
  intro l
  induction l with
  | nil => intro i τ S h _ _; exact ⟨G0, G0_ok, fun _ => rfl, [], τ, S, rfl, rfl, rfl, h⟩
  | cons o l ih =>
    intro i τ S h hd hc
    have ho : ops[i]? = some o := by
      have := congrArg (fun x => x[0]?) hd
      simpa using this
    have hl : ops.toList.drop (i + 1) = l := by
      have := congrArg List.tail hd
      simpa using this
    have hna : (allocOf o.op).isNone = true := List.all_eq_true.1 hal o (by
      have : o ∈ ops.toList.drop i := by rw [hd]; simp
      exact List.mem_of_mem_drop this)
    simp only [VL] at h
    split at h
    case isFalse hw =>
      have hc' : (l.filter (fun o => isCallV o.op)).length ≤ 1 := by
        rw [List.filter_cons] at hc
        split at hc
        · simp only [List.length_cons] at hc; omega
        · exact hc
      obtain ⟨G, g1, g2, R, τ', S', g3, g4, g5, g6⟩ := ih (i + 1) h hl hc'
      refine ⟨G, g1, fun hz => g2 ?_, { ts := tl n τ, S := S, v := undef, s := none } :: R, τ', S', ?_, by simp [g4], ?_, g6⟩
      · rw [List.filter_cons] at hz
        split at hz
        · simp at hz
        · exact hz
      · unfold canon
        rw [if_neg hw, tl_put, g3]
      · simp [entsOk, g5]
    case isTrue hw =>
      split at h
      case h_1 g vs hcal =>
        obtain ⟨G9, v, S1, hG9, h1, h2⟩ := h
        have hcv : isCallV o.op = true := calleeV_call hcal
        rw [List.filter_cons, if_pos hcv, List.length_cons] at hc
        obtain ⟨G, g1, g2, R, τ', S', g3, g4, g5, g6⟩ := ih (i + 1) h2 hl (by omega)
        have hG0 := g2 (by omega)
        subst hG0
        -- the rest holds no call: any knowledge serves
        have hany : ∀ (G : Fns) (l : List Oper) (i : Nat) (ts : List Value) (S : St) (R : List Ent) (tf : List Value) (Sf : St), (l.filter (fun o => isCallV o.op)).length = 0 → canon G0 P T hs ops i l ts S = some (R, tf, Sf) → canon G P T hs ops i l ts S = some (R, tf, Sf) := by
          intro G l
          induction l with
          | nil => intro i ts S R tf Sf _ h; exact h
          | cons o l ih =>
            intro i ts S R tf Sf hz h
            have hco : isCallV o.op = false := by
              cases hh : isCallV o.op with
              | false => rfl
              | true => rw [List.filter_cons, if_pos hh] at hz; simp at hz
            rw [List.filter_cons, if_neg (by rw [hco]; simp)] at hz
            unfold canon at h ⊢
            have hst : stepD G P T hs i ts S o = stepD G0 P T hs i ts S o := by
              unfold stepD
              rw [hhs i]
              exact stepOp_G0 hco
            rw [hst]
            split at h
            case isTrue hw =>
              rw [if_pos hw]
              split at h
              case h_2 => cases h
              case h_1 v s hvs =>
                split at h
                case h_2 => cases h
                case h_1 R' tf' Sf' hcc =>
                  simp only [ih _ _ _ _ _ _ hz hcc]
                  exact h
            case isFalse hw =>
              rw [if_neg hw]
              split at h
              case h_2 => cases h
              case h_1 R' tf' Sf' hcc =>
                simp only [ih _ _ _ _ _ _ hz hcc]
                exact h
        refine ⟨G9, hG9, fun hz => ?_, { ts := tl n τ, S := S, v := v, s := some S1 } :: R, τ', S', ?_, by simp [g4], ?_, g6⟩
        · rw [List.filter_cons, if_pos hcv] at hz; simp at hz
        · unfold canon
          rw [if_pos hw]
          have hst : stepD G9 P T hs i (tl n τ) S o = some [(v, some S1)] := by
            unfold stepD
            rw [hhs i]
            exact (calleeV_step hcal).1.trans h1
          rw [hst]
          simp only [tl_put, Option.getD_some]
          rw [hany G9 l (i + 1) _ _ R _ _ (by omega) g3]
        · have hx : isX ops i = true := by
            unfold isX
            rw [ho]
            simp only [xop, hcv, Bool.true_or]
          simp [entsOk, hx, g5]
      case h_2 hcal =>
        split at h
        case h_2 => exact h.elim
        case h_1 v S1 ha =>
          have hco : isCallV o.op = false := by
            cases hh : isCallV o.op with
            | false => rfl
            | true =>
              exfalso
              unfold aop at ha
              generalize hop : o.op = op at ha hh
              cases op <;> simp [isCallV] at hh
              rename_i c
              obtain ⟨cal, args, at'⟩ := c
              cases cal <;> simp at hh ha
          have hc' : (l.filter (fun o => isCallV o.op)).length ≤ 1 := by
            rw [List.filter_cons, if_neg (by rw [hco]; simp)] at hc
            exact hc
          obtain ⟨G, g1, g2, R, τ', S', g3, g4, g5, g6⟩ := ih (i + 1) h hl hc'
          obtain ⟨s, q1, q2⟩ := step_of_aop ha
          refine ⟨G, g1, fun hz => g2 ?_, { ts := tl n τ, S := S, v := v, s := s } :: R, τ', S', ?_, by simp [g4], ?_, g6⟩
          · rw [List.filter_cons, if_neg (by rw [hco]; simp)] at hz
            exact hz
          · unfold canon
            rw [if_pos hw]
            have hst : stepD G P T hs i (tl n τ) S o = some [(v, s)] := by
              unfold stepD
              rw [hhs i]
              simp only
              rw [stepOp_G0 hco]
              exact q1
            rw [hst]
            simp only [tl_put, q2]
            rw [g3]
          · have hx : s.isNone = true ∨ isX ops i = true := by
              by_cases he : eff o.op = true
              · right
                unfold isX
                rw [ho]
                simp only [xop, he, hna, Bool.and_self, Bool.or_true]
              · left
                unfold stepOp at q1
                split at q1
                · rename_i f args at' hop; rw [hop] at hco; simp [isCallV] at hco
                · rw [if_neg he] at q1
                  rw [Option.map_eq_some_iff] at q1
                  obtain ⟨l0, _, hl0⟩ := q1
                  cases l0 with
                  | nil => simp at hl0
                  | cons a l0 => simp only [List.map_cons, List.cons.injEq, Prod.mk.injEq] at hl0; rw [← hl0.1.2]; rfl
            simp only [entsOk, g5, Bool.and_true, Bool.or_eq_true]
            exact hx
theorem W_drawV (hT : TabOK P T) {id : Nat} {ops : Array Oper} (hst : drawStat n ops = true) (h : VL (CallC P) P T n ops ops.toList τ S (KN Q ds)) : W P n ro (.region id ops true) τ ds S Q := by
  unfold drawStat at hst
  simp only [Bool.and_eq_true] at hst
  obtain ⟨⟨⟨⟨⟨s1, s2⟩, s3⟩, s4⟩, s5⟩, s6⟩ := hst
  obtain ⟨G, hG, _, R, τ', S', g3, g4, g5, g6⟩ := canon_plain (hs := ops.toList.map fun _ => none) (getD_none _) s5 ops.toList 0 h rfl (Nat.le_of_ble_eq_true s6)
  refine ⟨.normal, τ', ds, S', ?_, g6⟩
  have hchk : drawChk G P T (ops.toList.map fun _ => none) ops (tl n τ) R S' = true := by
    unfold drawChk
    rw [s1, g5, List.isEmpty_iff.1 s4]
    have hlen : topOf ops ≤ (tl n τ).length := by rw [tl_length]; exact Nat.le_of_ble_eq_true s2
    simp only [hlen, decide_true, Bool.true_and, List.all_nil, Bool.and_true, List.all_eq_true]
    intro q hq
    have hqe : q.2 = [] := List.isEmpty_iff.1 (List.all_eq_true.1 s3 q hq)
    have hqi : ∃ o, ops[q.1]? = some o := by
      unfold again at hq
      rw [List.mem_filterMap] at hq
      obtain ⟨i, hi, h2⟩ := hq
      split at h2
      · rename_i o ho
        split at h2
        · cases h2
        · cases h2; exact ⟨o, ho⟩
      · cases h2
    obtain ⟨o, ho⟩ := hqi
    have hqs : q.1 < R.length := by
      rw [g4]
      rcases Nat.lt_or_ge q.1 ops.size with h | h
      · simpa using h
      · rw [Array.getElem?_eq_none h] at ho; cases ho
    rw [ho, List.getElem?_eq_getElem hqs, hqe]
    simp
  have hdraw : drawA G P T ops (tl n τ) S = some [(tl n τ', S')] := by
    unfold drawA
    rw [pre_none _ _ s5]
    simp only [g3, hchk, if_true]
  intro w0 E w a ro' m R' hro hS ht hd hQ
  refine drawA_ok hT hG hdraw hS ht ?_
  intro r hr E' a' w' hE hS' ht' hd' hk hz
  rw [List.mem_singleton] at hr
  subst hr
  exact hQ E' a' w' hE hS' ht' (by rw [hd']; exact hd.mono hE) hk hz
end
end Go.Ax
end
