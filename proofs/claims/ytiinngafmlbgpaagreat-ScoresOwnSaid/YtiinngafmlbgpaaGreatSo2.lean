/- A run on an abstract store, proved right for every world, and the functions of the law walked by it: part 3 of 7. -/
import Derived.Test.YtiinngafmlbgpaaGreatSo1
import Derived.WalkKit
import Derived.ProofKit
import Derived.OpenShut
import Derived.ShutString
import Derived.ChangeOld
import Derived.Below
import Derived.Test.YtiinngafmlbgpaaGreatProg
import Derived.KernelRfl
import Derived.Shelf.Spec.SlicesInsertGrow
import Derived.IntWalk
import Derived.Laws.Bits64
set_option linter.unusedSimpArgs false
set_option linter.unusedVariables false
/- part Wm -/
section
/- Lists of lists; appending one element; shapes of rows that are written. Program-independent. -/
namespace Go.Ax
open Go.RowKit Go.Proofs
section
variable {T : Tab} {S S' : St}

theorem fill_one {x z : Value} (hz : z.cells = #[z]) (hx : x.cells = #[x]) : Instr.fill (fun j => some (j * 1, 1)) (zeroRow z (1 * 1)) [(0, x)] = some #[x] := by
  have h1 : zeroRow z (1 * 1) = #[z] := by
    apply Array.ext'
    rw [zeroRow_one hz]
    rfl
  rw [h1]
  simp [Instr.fill, hx]
theorem bs_one {ty e : TypeId} {z x : Value} {by' : Nat} (hu : T.und ty = some (.slice e)) (he : T.info e = some ⟨z, 1, by'⟩) (hz : z.cells = #[z]) (hp : plain1 z = true) (hx : x.cells = #[x]) :
    buildSliceA T S ty 1 [(0, x)] = some (.slice (some ⟨S.n, 0, none⟩) 1 1, S.push (.cells [x] e 0)) := by
  simp only [buildSliceA, hu, he, fill_one hz hx]
  rw [if_pos ⟨by rw [zeroRow_one hz]; simp [plains1, hp], by omega⟩, if_pos (by unfold BIG; omega)]
/-- append of one element that was laid in a row of its own -/
theorem Mine.push_one {e ty : TypeId} {lo n : Nat} {v x z : Value} {cs : List Value} {by' : Nat} (h : Mine S e 1 lo v cs n) (hok : S.ok) (hlo : lo ≤ S.n) (hu : T.und ty = some (.slice e)) (he : T.info e = some ⟨z, 1, by'⟩) (hz : z.cells = #[z]) (h1 : x.oneCell' = true) (hn : n < 1000000) (hby : by' ≤ 64) :
    ∃ v' S', appendOpA T (S.push (.cells [x] e 0)) ty ty v (.slice (some ⟨S.n, 0, none⟩) 1 1) = some (v', S') ∧ Mine S' e 1 lo v' (cs ++ [x]) (n + 1) ∧ But v S S' ∧ (∀ b, baseOf v' = some b → baseOf v = some b ∨ S.n ≤ b) := by
  have h' : Mine (S.push (.cells [x] e 0)) e 1 lo v cs n := h.same fun b hb => get_push_ne _ (by have := (h.base hb).2; omega)
  have hx : Sl (S.push (.cells [x] e 0)) 1 (.slice (some ⟨S.n, 0, none⟩) 1 1) [x] 1 := Sl.of_cells (get_push_new _ rfl) rfl (by unfold BIG; omega) (Nat.le_refl _)
  have h64 : (2 * (n + 1) + 768) * by' ≤ (2 * (n + 1) + 768) * 64 := Nat.mul_le_mul_left _ hby
  have hle : (2 * (n + 1) + 768) * by' ≤ 281474976710656 := Nat.le_trans h64 (by omega)
  have hg : growOk ⟨z, 1, by'⟩ (n + 1) = true := grow_ok hle (by omega)
  obtain ⟨v', S', a1, a2, a3, a4⟩ := h'.append (T := T) (ty := ty) (ty2 := ty) (x := .slice (some ⟨S.n, 0, none⟩) 1 1) (m := 1) (news := [x]) (by rw [ok_push_iff]; exact hok) (by rw [push_n]; omega) hu hu rfl he rfl (by omega) (by simp [hz]) hx.lenA hx.src (by simp [ones, h1]) rfl hg
  have hn3 := a3.n
  rw [push_n] at hn3
  refine ⟨v', S', a1, a2, ⟨a3.ok, by omega, fun i hi hb => ?_, by rw [a3.mono, push_mono]⟩, fun b hb => ?_⟩
  · rw [a3.same i (by rw [push_n]; omega) hb, get_push_ne _ (by omega)]
  · rcases a4 b hb with g | g
    · exact .inl g
    · rw [push_n] at g; exact .inr (by omega)

/-- a list of lists of numbers that can be read -/
def Mat (S : St) (v : Value) (rows : List (List Int)) : Prop :=
  ∃ cs, Sl S 1 v cs rows.length ∧ ∀ i (h : i < rows.length), ∃ rv, cs[i]? = some rv ∧ Sl S 1 rv (iv rows[i]) rows[i].length ∧ Plain rv rows[i].length
theorem Mat.len {v : Value} {rows : List (List Int)} (h : Mat S v rows) {ty e : TypeId} (hu : T.und ty = some (.slice e)) : lenOpA T S ty v = some (.int .i64 rows.length) := by
  obtain ⟨cs, h1, _⟩ := h
  exact h1.len hu
theorem Mat.row {v : Value} {rows : List (List Int)} (h : Mat S v rows) {ty e f : TypeId} {ti : TI} (hu : T.und ty = some (.slice e)) (he : T.info e = some ti) (hd : T.und e = some (.slice f)) (hsz : ti.size = 1) {k : IntKind} {i : Nat} (hi : i < rows.length) :
    ∃ p rv, indexAddrA T ty (.int k i) v = some p ∧ loadA T S e p = some rv ∧ Sl S 1 rv (iv rows[i]) rows[i].length ∧ Plain rv rows[i].length := by
  obtain ⟨cs, h1, h2⟩ := h
  obtain ⟨rv, r1, r2, r3⟩ := h2 i hi
  obtain ⟨p, p1, p2, _⟩ := h1.at1 (T := T) (k := k) hu he hd hsz rfl hi
  exact ⟨p, rv, p1, by rw [p2, r1], r2, r3⟩
theorem Mat.same {v : Value} {rows : List (List Int)} (h : Mat S v rows) (hs : ∀ b, b < S.n → S'.get b = S.get b) : Mat S' v rows := by
  obtain ⟨cs, h1, h2⟩ := h
  refine ⟨cs, h1.same fun b hb => hs b (h1.base hb), fun i hi => ?_⟩
  obtain ⟨rv, r1, r2, r3⟩ := h2 i hi
  exact ⟨rv, r1, r2.same fun b hb => hs b (r2.base hb), r3⟩
theorem Mat.extd {v : Value} {rows : List (List Int)} (h : Mat S v rows) (hE : Ext S S') : Mat S' v rows := h.same hE.same
theorem Plain.cells {v : Value} {n : Nat} (h : Plain v n) : v.cells = #[v] ∧ v.oneCell' = true := by
  rcases h with rfl | ⟨b, o, c, rfl⟩ | ⟨b, o, z, rfl⟩ <;> exact ⟨rfl, rfl⟩
theorem Mine.apart {e e' : TypeId} {sz sz' lo lo' n n' : Nat} {v v' : Value} {cs cs' : List Value} (h : Mine S e sz lo v cs n) (h' : Mine S e' sz' lo' v' cs' n') (hne : e ≠ e') {b : Nat} (hb : baseOf v = some b) : baseOf v' ≠ some b := by
  intro hb'
  rcases h with ⟨rfl, _⟩ | ⟨b1, rfl, _, h2, _⟩
  · cases hb
  · rcases h' with ⟨rfl, _⟩ | ⟨b2, rfl, _, h4, _⟩
    · cases hb'
    · cases hb
      cases hb'
      rw [h2] at h4
      cases h4
      exact hne rfl
theorem Mine.but {e e' : TypeId} {sz sz' lo lo' n n' : Nat} {v v' : Value} {cs cs' : List Value} (h : Mine S e sz lo v cs n) (h' : Mine S e' sz' lo' v' cs' n') (hne : e ≠ e') (hB : But v' S S') : Mine S' e sz lo v cs n :=
  h.same fun _ hb => hB.same _ (h.base hb).2 (h.apart h' hne hb)
/-- a store to a block of one's own, made since -/
theorem But.ext {v : Value} {S0 : St} (h : But v S S') (hE : Ext S0 S) (hb : ∀ b, baseOf v = some b → S0.n ≤ b) : Ext S0 S' :=
  ⟨h.ok, Nat.le_trans hE.n h.n, fun i hi => by rw [h.same i (Nat.lt_of_lt_of_le hi hE.n) (fun e => by have := hb i e; omega), hE.same i hi], h.mono.trans hE.mono⟩
end
end Go.Ax
end
/- part Wx -/
section
/- The start of a run that was handed rows of the caller's, which it only reads. -/
namespace Go.Ax
open Go.RowKit Go.Proofs Go.Lib
/-- a row of the caller's: its block, where it begins, its cells here and there -/
structure RowX where
  b : Nat
  off : Nat
  cs : List Value
  cs' : List Value
noncomputable def objX : Option RowX → AObj
  | some r => .ext r.off r.cs
  | none => .dead
noncomputable def startL (L : List (Option RowX)) : St := { objs := (L.map objX).reverse, n := L.length, low := 0 }
def envL (L : List (Option RowX)) : Env := fun i => match L[i]? with
  | some (some r) => some (r.b, 0)
  | _ => none
theorem startL_get (L : List (Option RowX)) (i : Nat) : (startL L).get i = (L[i]?).map objX := by
  rw [St.get_def]
  unfold startL
  simp only
  by_cases h : i < L.length
  · rw [if_pos h, List.getElem?_reverse (by rw [List.length_map]; omega), List.getElem?_map, List.length_map]
    congr 2
    omega
  · rw [if_neg h, List.getElem?_eq_none (by omega)]
    rfl
theorem SR.startL (w : World) (L : List (Option RowX)) (h : ∀ (i : Nat) (r : RowX), L[i]? = some (some r) → ∃ arr t fz, w.heap[r.b]? = some (.cells arr t fz) ∧ VRs (envL L) r.cs r.cs' ∧ ∀ (k : Nat) (v : Value), r.cs'[k]? = some v → arr[r.off + k]? = some v) :
    SR ⟨w, fun _ => True, fun _ => False⟩ (envL L) (startL L) w where
  len := by unfold St.ok Go.Ax.startL; simp
  obj := by
    intro i o hi _
    rw [startL_get] at hi
    cases hr : L[i]? with
    | none => rw [hr] at hi; cases hi
    | some q =>
      rw [hr] at hi
      simp only [Option.map_some, Option.some.injEq] at hi
      subst hi
      cases q with
      | none => trivial
      | some r =>
        obtain ⟨arr, t, fz, h1, h2, h3⟩ := h i r hr
        exact ⟨r.b, 0, arr, t, fz, r.cs', by simp [envL, hr], h1, h2, h3⟩
  hole := fun _ h => h.elim
  dom := by
    intro i hi
    unfold envL
    rw [List.getElem?_eq_none hi]
  inj := by
    intro i j o o' b κ κ' hi ha
    rw [startL_get] at hi
    cases hr : L[i]? with
    | none => rw [hr] at hi; cases hi
    | some q =>
      rw [hr] at hi
      simp only [Option.map_some, Option.some.injEq] at hi
      subst hi
      cases q <;> simp [objX, AObj.alive] at ha
  rng := by
    intro i b κ hE
    unfold envL at hE
    split at hE
    · rename_i r hr
      cases hE
      obtain ⟨arr, t, fz, h1, _⟩ := h i r hr
      refine ⟨.inl trivial, ?_⟩
      rcases Nat.lt_or_ge r.b w.heap.size with hlt | hge
      · exact hlt
      · rw [Array.getElem?_eq_none hge] at h1; cases h1
    · cases hE
  below := ⟨rfl, rfl, rfl, Nat.le_refl _, fun _ _ => rfl⟩
  new := by
    intro i o b κ hi ha
    rw [startL_get] at hi
    cases hr : L[i]? with
    | none => rw [hr] at hi; cases hi
    | some q =>
      rw [hr] at hi
      simp only [Option.map_some, Option.some.injEq] at hi
      subst hi
      cases q <;> simp [objX, AObj.alive] at ha
  mono := fun h => by cases h
theorem startL_view {L : List (Option RowX)} {i : Nat} {r : RowX} (h : L[i]? = some (some r)) : view (startL L) i = some (r.off, r.cs) := by
  apply view_ext
  rw [startL_get, h]
  rfl
/-- a row of numbers that came in, as it stands in a cell -/
def RowIn (w : World) (v : Value) (xs : List Int) : Prop :=
  (v = .slice none 0 0 ∧ xs = []) ∨ (∃ a, v = .slice (some a) 0 0 ∧ xs = []) ∨
  ∃ b o cap arr t fz, v = .slice (some ⟨b, o, none⟩) xs.length cap ∧ xs.length ≤ cap ∧ cap < BIG ∧ w.heap[b]? = some (.cells arr t fz) ∧ ∀ i (h : i < xs.length), arr[o + i]? = some (.int .i64 xs[i])
/-- one such row, under the number j -/
theorem rowIn_abs {w : World} {v : Value} {xs : List Int} (h : RowIn w v xs) (j : Nat) : ∃ (q : Option RowX) (u : Value), (∀ L : List (Option RowX), L[j]? = some q → VR (envL L) u v ∧ Sl (startL L) 1 u (iv xs) xs.length) ∧ Plain u xs.length ∧
    ∀ r : RowX, q = some r → ∃ arr t fz, w.heap[r.b]? = some (.cells arr t fz) ∧ (∀ E, VRs E r.cs r.cs') ∧ ∀ (k : Nat) (v : Value), r.cs'[k]? = some v → arr[r.off + k]? = some v := by
  rcases h with ⟨rfl, rfl⟩ | ⟨a, rfl, rfl⟩ | ⟨b, o, cap, arr, t, fz, rfl, h1, h2, h3, h4⟩
  · exact ⟨none, .slice none 0 0, fun L hL => ⟨.sc rfl, .inl ⟨rfl, rfl, rfl⟩⟩, .inl rfl, fun r hr => by cases hr⟩
  · exact ⟨none, .slice (some ⟨a.block, a.off, some (zc a.spot)⟩) 0 (BIG + BIG), fun L hL => ⟨.dang a rfl rfl rfl rfl, .inr (.inl ⟨_, _, _, _, rfl, rfl, rfl⟩)⟩, .inr (.inr ⟨_, _, _, rfl⟩), fun r hr => by cases hr⟩
  · refine ⟨some ⟨b, o, iv xs, iv xs⟩, .slice (some ⟨j, o, none⟩) xs.length cap, fun L hL => ⟨?_, ?_⟩, .mk, ?_⟩
    · exact VR.slx o xs.length cap (κ := 0) (by simp [envL, hL]) h2
    · refine .inr (.inr ⟨j, o, cap, o, iv xs, rfl, startL_view hL, Nat.le_refl _, by rw [iv_len, Nat.mul_one], by rw [iv_len]; omega, ?_, .inl ⟨h2, h1⟩⟩)
      rw [Nat.sub_self, List.drop_zero, List.take_of_length_le (by rw [iv_len]; omega)]
    · intro r hr
      cases hr
      refine ⟨arr, t, fz, h3, fun E => ?_, ?_⟩
      · refine VRs.of_all fun v hv => ?_
        unfold iv at hv
        rw [List.mem_map] at hv
        obtain ⟨x, _, rfl⟩ := hv
        rfl
      · intro k v hk
        rw [iv_get] at hk
        have hlt : k < xs.length := by
          rcases Nat.lt_or_ge k xs.length with h | h
          · exact h
          · rw [List.getElem?_eq_none h] at hk; cases hk
        rw [List.getElem?_eq_getElem hlt] at hk
        cases hk
        exact h4 k hlt
/-- all rows: the numbers from m on -/
theorem rowsIn_abs {w : World} : ∀ (vs : List Value) (xss : List (List Int)), vs.length = xss.length → (∀ (i : Nat) (v : Value) (xs : List Int), vs[i]? = some v → xss[i]? = some xs → RowIn w v xs) → ∀ m : Nat, ∃ (Q : List (Option RowX)) (us : List Value), Q.length = vs.length ∧ us.length = vs.length ∧
    ∀ L : List (Option RowX), (∀ (i : Nat) (q : Option RowX), Q[i]? = some q → L[m + i]? = some q) → VRs (envL L) us vs ∧ (∀ (i : Nat) (xs : List Int), xss[i]? = some xs → ∃ u : Value, us[i]? = some u ∧ Sl (startL L) 1 u (iv xs) xs.length ∧ Plain u xs.length) ∧
      ∀ (i : Nat) (r : RowX), Q[i]? = some (some r) → ∃ arr t fz, w.heap[r.b]? = some (.cells arr t fz) ∧ (∀ E, VRs E r.cs r.cs') ∧ ∀ (k : Nat) (v : Value), r.cs'[k]? = some v → arr[r.off + k]? = some v := by
  intro vs
  induction vs with
  | nil =>
    intro xss hl _ m
    have : xss = [] := List.length_eq_zero_iff.1 hl.symm
    subst this
    exact ⟨[], [], rfl, rfl, fun L _ => ⟨.nil, fun i xs h => by simp at h, fun i r h => by simp at h⟩⟩
  | cons v vs ih =>
    intro xss hl h m
    cases xss with
    | nil => simp at hl
    | cons xs xss =>
      obtain ⟨q, u, h1, h2, h3⟩ := rowIn_abs (h 0 v xs rfl rfl) m
      obtain ⟨Q, us, g1, g2, g3⟩ := ih xss (by simpa using hl) (fun i v xs hv hx => h (i + 1) v xs (by simpa using hv) (by simpa using hx)) (m + 1)
      refine ⟨q :: Q, u :: us, by simp [g1], by simp [g2], fun L hL => ?_⟩
      obtain ⟨k1, k2⟩ := h1 L (by have := hL 0 q rfl; simpa using this)
      obtain ⟨j1, j2, j3⟩ := g3 L (fun i q' hq => by have := hL (i + 1) q' (by simpa using hq); rw [← this]; congr 1; omega)
      refine ⟨.cons k1 j1, ?_, ?_⟩
      · intro i xs' hx
        cases i with
        | zero => cases hx; exact ⟨u, rfl, k2, h2⟩
        | succ i => exact j2 i xs' (by simpa using hx)
      · intro i r hr
        cases i with
        | zero => simp only [List.getElem?_cons_zero, Option.some.injEq] at hr; exact h3 r hr
        | succ i => exact j3 i r (by simpa using hr)
/-- a list of rows that came in -/
def TabIn (w : World) (v : Value) (xss : List (List Int)) : Prop :=
  (v = .slice none 0 0 ∧ xss = []) ∨
  ∃ (b o cap : Nat) (arr : Array Value) (t : TypeId) (fz : Nat × Nat) (vs : List Value), v = .slice (some ⟨b, o, none⟩) xss.length cap ∧ xss.length ≤ cap ∧ cap < BIG ∧ w.heap[b]? = some (.cells arr t fz) ∧ vs.length = xss.length ∧ (∀ (k : Nat) (u : Value), vs[k]? = some u → arr[o + k]? = some u) ∧ ∀ (i : Nat) (u : Value) (xs : List Int), vs[i]? = some u → xss[i]? = some xs → RowIn w u xs
theorem tabIn_start {w : World} {v : Value} {xss : List (List Int)} (h : TabIn w v xss) : ∃ (S : St) (E : Env) (u : Value), S.ok ∧ SR ⟨w, fun _ => True, fun _ => False⟩ E S w ∧ VR E u v ∧ Mat S u xss ∧ Plain u xss.length := by
  rcases h with ⟨rfl, rfl⟩ | ⟨b, o, cap, arr, t, fz, vs, rfl, h1, h2, h3, h4, h5, h6⟩
  · exact ⟨startL [], envL [], .slice none 0 0, rfl, SR.startL w [] (fun i r h => by simp at h), .sc rfl, ⟨[], .inl ⟨rfl, rfl, rfl⟩, fun i hi => by simp at hi⟩, .inl rfl⟩
  · obtain ⟨Q, us, g1, g2, g3⟩ := rowsIn_abs vs xss h4 h6 1
    have hL : ∀ i q, Q[i]? = some q → ((some ⟨b, o, us, vs⟩ :: Q : List (Option RowX)))[1 + i]? = some q := by
      intro i q hq
      rw [Nat.add_comm, List.getElem?_cons_succ]
      exact hq
    obtain ⟨k1, k2, k3⟩ := g3 (some ⟨b, o, us, vs⟩ :: Q) hL
    have hul : (us.length : Nat) = xss.length := by omega
    refine ⟨startL (some ⟨b, o, us, vs⟩ :: Q), envL (some ⟨b, o, us, vs⟩ :: Q), .slice (some ⟨0, o, none⟩) xss.length cap, by unfold St.ok Go.Ax.startL; simp, SR.startL w _ ?_, VR.slx o xss.length cap (κ := 0) (by simp [envL]) h2, ⟨us, ?_, ?_⟩, .mk⟩
    · intro i r hr
      cases i with
      | zero =>
        simp only [List.getElem?_cons_zero, Option.some.injEq] at hr
        subst hr
        exact ⟨arr, t, fz, h3, k1, h5⟩
      | succ i =>
        obtain ⟨arr', t', fz', q1, q2, q3⟩ := k3 i r (by simpa using hr)
        exact ⟨arr', t', fz', q1, q2 _, q3⟩
    · refine .inr (.inr ⟨0, o, cap, o, us, rfl, startL_view (r := ⟨b, o, us, vs⟩) rfl, Nat.le_refl _, by omega, by omega, ?_, .inl ⟨h2, h1⟩⟩)
      rw [Nat.sub_self, List.drop_zero, List.take_of_length_le (by omega)]
    · intro i hi
      exact k2 i _ (List.getElem?_eq_getElem hi)
end Go.Ax
end
/- part Wy -/
section
/- Arguments that are lists, or lists of lists, of whole numbers: opened from the readings of a claim. -/
namespace Go.Ax
open Go.ChangeShapes Go.WideShapes Go.ChangeAt Go.RowKit
theorem cellAt {w : World} {b o : Nat} {arr : Array Value} {t : TypeId} {fz : Nat × Nat} (hb : w.heap[b]? = some (.cells arr t fz)) (i : Nat) : w.cell? ((⟨b, o, none⟩ : Addr).add i) = arr[o + i]? := by
  unfold Addr.add World.cell?
  by_cases h : i = 0
  · subst h; simp [hb]
  · simp [h, hb]
theorem cell_some {w : World} {a : Addr} {v : Value} (h : w.cell? a = some v) : ∃ arr t fz, w.heap[a.block]? = some (.cells arr t fz) ∧ a = ⟨a.block, a.off, none⟩ := by
  obtain ⟨b, o, s⟩ := a
  unfold World.cell? at h
  simp only at h
  split at h
  · rename_i arr t fz hb
    cases s with
    | none => exact ⟨arr, t, fz, hb, rfl⟩
    | some s => simp at h
  · cases h
theorem hasRow {P : Program} {W : World} {base : Nat} {t e : TypeId} {x : Addr} {len cap : Nat} (ht : P.underlying t = some (.slice e)) (h : Value.okWide P W .any base t (.slice (some x) len cap)) :
    ∃ b o arr t fz, x = ⟨b, o, none⟩ ∧ W.heap[b]? = some (.cells arr t fz) := by
  simp only [Value.okWide, ht, Cell.okWide, Cell.ok] at h
  obtain ⟨_, _, _, h1, r, c, h2, _⟩ := h
  obtain ⟨b, o, s⟩ := x
  simp only at h1 h2
  subst h1
  unfold World.shape? at h2
  split at h2
  · rename_i c' e' fz hc
    exact ⟨b, o, c', e', fz, rfl, hc⟩
  · cases h2
section
variable {H : Type} {enc : TypeId × Value → H} {P : Program} {W : World}
theorem rowIn_trod {t e : TypeId} {fuel : Nat} {c : Value} {x : DataW H × List MemPlace} (ht : P.underlying t = some (.slice e)) (he : P.underlying e = some (.int .i64)) (hc : P.cellsOf e = 1)
    (h : DataW.trod enc P W 0 (fun _ => true) true fuel t [c] = some x) : ∃ xs, RowIn W c xs := by
  rcases open_ints ht he hc h with ⟨hcs, _⟩ | ⟨a, len, cap, zs, hcs, _, hl, hm, hz, _, hcell, _⟩
  · simp only [List.cons.injEq, and_true] at hcs
    subst hcs
    exact ⟨[], .inl ⟨rfl, rfl⟩⟩
  · simp only [List.cons.injEq, and_true] at hcs
    subst hcs
    simp only [if_true] at hz
    by_cases h0 : cap = 0
    · subst h0
      have : len = 0 := by omega
      subst this
      exact ⟨[], .inr (.inl ⟨a, rfl, rfl⟩)⟩
    · have h1 := hcell 0 (by omega)
      have h1' : W.cell? a = some (.int .i64 (zs.getD 0 0)) := by simpa [Addr.add] using h1
      obtain ⟨arr, t', fz, hb, ha⟩ := cell_some h1'
      have hlen : (zs.take len).length = len := by rw [List.length_take]; omega
      refine ⟨zs.take len, .inr (.inr ⟨a.block, a.off, cap, arr, t', fz, by rw [hlen, ← ha], by omega, by unfold maxLen at hm; unfold BIG; omega, hb, ?_⟩)⟩
      intro i hi
      rw [hlen] at hi
      have h2 := hcell i (by omega)
      rw [ha, cellAt hb] at h2
      rw [h2, List.getD_eq_getElem?_getD, List.getElem?_eq_getElem (by omega)]
      simp
theorem tabIn_trod {t e f : TypeId} {v : Value} {d : DataW H} {ps : List MemPlace} {base : Nat} (ht : P.underlying t = some (.slice e)) (he : P.underlying e = some (.slice f)) (hf : P.underlying f = some (.int .i64)) (hce : P.cellsOf e = 1) (hcf : P.cellsOf f = 1)
    (hok : Value.okWide P W .any base t v) (h : DataW.Trod enc P W 0 (fun _ => true) true t v d ps) : ∃ xss, TabIn W v xss := by
  obtain ⟨fuel, hfu⟩ := h
  obtain ⟨a0, l0, c0, rfl⟩ := okWide_slice ht hok
  rcases DataW.trod_slice ht hfu with ⟨hcs, _⟩ | ⟨a, len, cap, elems, rest, n, _, hcs, _, _, hl, hm, hlen, hel, _, _⟩
  · simp [Value.cells] at hcs
    obtain ⟨rfl, rfl, rfl⟩ := hcs
    exact ⟨[], .inl ⟨rfl, rfl⟩⟩
  · simp [Value.cells] at hcs
    obtain ⟨rfl, rfl, rfl⟩ := hcs
    obtain ⟨b, o, arr, t', fz, rfl, hb⟩ := hasRow ht hok
    -- each element
    have each : ∀ i, i < l0 → ∃ c xs, arr[o + i]? = some c ∧ RowIn W c xs := by
      intro i hi
      have h1 := hel i hi
      rw [hce, Nat.mul_one, List.getElem?_eq_getElem (by omega), Option.bind_eq_some_iff] at h1
      obtain ⟨cs', k1, k2⟩ := h1
      have hone : ∃ c, cs' = [c] := by
        rcases DataW.trod_slice he k2 with ⟨hcs, _⟩ | ⟨a, len, cap, elems, rest, n, _, hcs, _⟩
        · exact ⟨_, hcs⟩
        · exact ⟨_, hcs⟩
      obtain ⟨c, rfl⟩ := hone
      have hcell := cell_of_cells?_one k1
      rw [cellAt hb] at hcell
      obtain ⟨xs, hxs⟩ := rowIn_trod he hf hcf k2
      exact ⟨c, xs, hcell, hxs⟩
    have build : ∀ m, m ≤ l0 → ∃ (vs : List Value) (xss : List (List Int)), vs.length = m ∧ xss.length = m ∧ (∀ (k : Nat) (u : Value), vs[k]? = some u → arr[o + k]? = some u) ∧ ∀ (i : Nat) (u : Value) (xs : List Int), vs[i]? = some u → xss[i]? = some xs → RowIn W u xs := by
      intro m
      induction m with
      | zero => intro _; exact ⟨[], [], rfl, rfl, fun k u h => by simp at h, fun i u xs h => by simp at h⟩
      | succ m ih =>
        intro hm
        obtain ⟨vs, xss, g1, g2, g3, g4⟩ := ih (by omega)
        obtain ⟨c, xs, k1, k2⟩ := each m (by omega)
        refine ⟨vs ++ [c], xss ++ [xs], by simp [g1], by simp [g2], ?_, ?_⟩
        · intro k u hk
          rw [List.getElem?_append] at hk
          split at hk
          · exact g3 k u hk
          · rename_i hge
            have hkm : k - vs.length = 0 := by
              rcases Nat.eq_zero_or_pos (k - vs.length) with h | h
              · exact h
              · rw [List.getElem?_eq_none (by simp; omega)] at hk; cases hk
            rw [hkm] at hk
            cases hk
            have : k = m := by omega
            subst this
            exact k1
        · intro i u ys hu hy
          rw [List.getElem?_append] at hu hy
          by_cases hi : i < m
          · rw [if_pos (by omega)] at hu hy
            exact g4 i u ys hu hy
          · rw [if_neg (by omega)] at hu hy
            have hkm : i - vs.length = 0 := by
              rcases Nat.eq_zero_or_pos (i - vs.length) with h | h
              · exact h
              · rw [List.getElem?_eq_none (by simp; omega)] at hu; cases hu
            rw [hkm] at hu
            rw [show i - xss.length = 0 by omega] at hy
            cases hu
            cases hy
            exact k2
    obtain ⟨vs, xss, g1, g2, g3, g4⟩ := build l0 (Nat.le_refl _)
    exact ⟨xss, .inr ⟨b, o, c0, arr, t', fz, vs, by rw [g2], by omega, by unfold maxLen at hm; unfold BIG; omega, hb, by omega, g3, g4⟩⟩
end
end Go.Ax
end
/- part Zb -/
section
/- The second seat's program: types. -/
namespace Go.Proofs.Sz
open Go Go.Ax Go.Proofs Go.RowKit
noncomputable abbrev PP : Program := Tryz.prog
noncomputable def TT : Tab := tabOf Tryz.prog
theorem names : namesOk Tryz.prog = true := by kernel_rfl
theorem mixed : Tryz.prog.follows .mixedOrders = true := by kernel_rfl
theorem hTT : TabOK PP TT := tabOf_ok names mixed
theorem und3 : TT.und 3 = some (.int .i64) := by kernel_rfl
theorem und4 : TT.und 4 = some (.bool) := by kernel_rfl
theorem und22 : TT.und 22 = some (.slice 26) := by kernel_rfl
theorem und26 : TT.und 26 = some (.slice 3) := by kernel_rfl
theorem und29 : TT.und 29 = some (.int .i64) := by kernel_rfl
theorem und45 : TT.und 45 = some (.int .u64) := by kernel_rfl
theorem und64 : TT.und 64 = some (.slice 4) := by kernel_rfl
theorem info3 : TT.info 3 = some ⟨.int .i64 0, 1, 8⟩ := by kernel_rfl
theorem info4 : TT.info 4 = some ⟨.bool false, 1, 1⟩ := by kernel_rfl
theorem info22 : TT.info 22 = some ⟨.slice none 0 0, 1, 24⟩ := by kernel_rfl
theorem info26 : TT.info 26 = some ⟨.slice none 0 0, 1, 24⟩ := by kernel_rfl
theorem info29 : TT.info 29 = some ⟨.int .i64 0, 1, 8⟩ := by kernel_rfl
theorem info45 : TT.info 45 = some ⟨.int .u64 0, 1, 8⟩ := by kernel_rfl
theorem info64 : TT.info 64 = some ⟨.slice none 0 0, 1, 24⟩ := by kernel_rfl
theorem info50 : TT.info 50 = some ⟨.nilFunc, 1, 8⟩ := by kernel_rfl
theorem fnOk_func (f : FuncId) : fnOk (.func f) = true := Eq.trans rfl rfl
end Go.Proofs.Sz
end
/- part SzIns -/
section
/- slices.Insert of ints: the library's contract laid upon this program. -/
namespace Go.Proofs.Sz
open Go Go.Ax Go.Proofs
def iren : Shelf.Ren where
  f := fun x => match x with
    | 21 => 34
    | 27 => 55
    | 28 => 56
    | 35 => 73
    | 39 => 84
    | n => n
  t := fun x => match x with
    | 22 => 26
    | n => n
  g := fun x => x
theorem insE : Lays2.n21 Tryz.prog iren where
  mixed := by kernel_rfl
  f21 := by kernel_rfl
  f27 := by kernel_rfl
  f28 := by kernel_rfl
  f35 := by kernel_rfl
  f39 := by kernel_rfl
  t0 := Tryz.underlying0
  a0 := Tryz.isAgg0
  z0 := Tryz.sizeOf0
  v0 := Tryz.zeroValue0
  t3 := Tryz.underlying3
  a3 := Tryz.isAgg3
  z3 := Tryz.sizeOf3
  v3 := Tryz.zeroValue3
  t4 := Tryz.underlying4
  a4 := Tryz.isAgg4
  z4 := Tryz.sizeOf4
  v4 := Tryz.zeroValue4
  t22 := Tryz.underlying26
  a22 := Tryz.isAgg26
  z22 := Tryz.sizeOf26
  v22 := Tryz.zeroValue26
  i3 := by kernel_rfl
end Go.Proofs.Sz
end
/- part Za -/
section
namespace Go.Proofs.Sz
open Go Go.Ax Go.Proofs Go.RowKit
theorem fn14 : TT.fn 14 = some Tryz.f14 := by kernel_rfl
/-- ints -/
theorem ints_call {S : St} {va vb : Value} {xs ys : List Int} (ha : Sl S 1 va (iv xs) xs.length) (hb : Sl S 1 vb (iv ys) ys.length) (hbig : xs.length < 4611686018427387904) :
    CallW PP 14 [va, vb] S (fun v S' => v = .bool (decide (xs = ys)) ∧ S' = S) := by
  have hla := ha.len (T := TT) und26
  have hlb := hb.len (T := TT) und26
  refine CallW_of hTT fn14 rfl (by simp [Tryz.f14]) ?_
  unfold Tryz.f14
  repeat (first | with_reducible refine W_seq ?_ | with_reducible refine W_block ?_ | with_reducible refine W_scope ?_ | ((first | with_reducible refine W_regionV hTT ?_ | with_reducible refine W_condV ?_ | with_reducible refine W_ret ?_ | with_reducible refine W_exit ?_ | with_reducible refine W_skip ?_ | with_reducible refine W_label ?_ | with_reducible refine W_drawV hTT (by kernel_rfl) ?_); try simp only [und3, und4, und22, und26, und29, und45, und64, info3, info4, info22, info26, info29, info45, info64, info50, aggT, J0, J1, J2, J3, J4, J5, J6, J7, J8, J9, J10, J11, J12, gv, dstAt, J13, J14, J15, J16, J17, J18, J19, J20, J21, J22, J23, J24, J25, J26, J27, J28, J29, J30, J31, J32, J33, J34, J35, J36, J37, J38, J39, J40, J41, J42, J43, J44, J45, J46, J47, J48, J49, J50, J51, J52, J53, J54, J55, J56, J57, J58, J59, aop, J60, J61, J62, evalsA, partsA, evalO, J63, J64, J65, J66, J67, J68, J69, J70, J71, updO, J72, ofArgs, J73, binV, intBin, J74, unV, J75, J76, mmV, builtinA, J77, J78, J79, J80, J81, J82, J83, J84, J85, J86, J87, J88, J89, Nat.reduceLT, Nat.reduceEqDiff, Nat.reduceAdd, Nat.reduceSub, Nat.reduceMul, reduceIte, J90, J91, J92, reduceCtorEq, J93, J94, J95, J96, J97, J98, J99, J100, hla, hlb]))
  refine VIf_split (fun h1 => ?_) (fun h1 => ?_)
  · repeat (first | with_reducible refine W_seq ?_ | with_reducible refine W_block ?_ | with_reducible refine W_scope ?_ | ((first | with_reducible refine W_regionV hTT ?_ | with_reducible refine W_condV ?_ | with_reducible refine W_ret ?_ | with_reducible refine W_exit ?_ | with_reducible refine W_skip ?_ | with_reducible refine W_label ?_ | with_reducible refine W_drawV hTT (by kernel_rfl) ?_); try simp only [und3, und4, und22, und26, und29, und45, und64, info3, info4, info22, info26, info29, info45, info64, info50, aggT, J0, J1, J2, J3, J4, J5, J6, J7, J8, J9, J10, J11, J12, gv, dstAt, J13, J14, J15, J16, J17, J18, J19, J20, J21, J22, J23, J24, J25, J26, J27, J28, J29, J30, J31, J32, J33, J34, J35, J36, J37, J38, J39, J40, J41, J42, J43, J44, J45, J46, J47, J48, J49, J50, J51, J52, J53, J54, J55, J56, J57, J58, J59, aop, J60, J61, J62, evalsA, partsA, evalO, J63, J64, J65, J66, J67, J68, J69, J70, J71, updO, J72, ofArgs, J73, binV, intBin, J74, unV, J75, J76, mmV, builtinA, J77, J78, J79, J80, J81, J82, J83, J84, J85, J86, J87, J88, J89, Nat.reduceLT, Nat.reduceEqDiff, Nat.reduceAdd, Nat.reduceSub, Nat.reduceMul, reduceIte, J90, J91, J92, reduceCtorEq, J93, J94, J95, J96, J97, J98, J99, J100]))
    congr 1
    simp only [Bool.false_eq, decide_eq_false_iff_not]
    rintro rfl
    simp at h1
  · repeat (first | with_reducible refine W_seq ?_ | with_reducible refine W_block ?_ | with_reducible refine W_scope ?_ | ((first | with_reducible refine W_regionV hTT ?_ | with_reducible refine W_condV ?_ | with_reducible refine W_ret ?_ | with_reducible refine W_exit ?_ | with_reducible refine W_skip ?_ | with_reducible refine W_label ?_ | with_reducible refine W_drawV hTT (by kernel_rfl) ?_); try simp only [und3, und4, und22, und26, und29, und45, und64, info3, info4, info22, info26, info29, info45, info64, info50, aggT, J0, J1, J2, J3, J4, J5, J6, J7, J8, J9, J10, J11, J12, gv, dstAt, J13, J14, J15, J16, J17, J18, J19, J20, J21, J22, J23, J24, J25, J26, J27, J28, J29, J30, J31, J32, J33, J34, J35, J36, J37, J38, J39, J40, J41, J42, J43, J44, J45, J46, J47, J48, J49, J50, J51, J52, J53, J54, J55, J56, J57, J58, J59, aop, J60, J61, J62, evalsA, partsA, evalO, J63, J64, J65, J66, J67, J68, J69, J70, J71, updO, J72, ofArgs, J73, binV, intBin, J74, unV, J75, J76, mmV, builtinA, J77, J78, J79, J80, J81, J82, J83, J84, J85, J86, J87, J88, J89, Nat.reduceLT, Nat.reduceEqDiff, Nat.reduceAdd, Nat.reduceSub, Nat.reduceMul, reduceIte, J90, J91, J92, reduceCtorEq, J93, J94, J95, J96, J97, J98, J99, J100]))
    refine W_loopI (fun m τ ds S' => S' = S ∧ ds = [] ∧ ∃ k : Nat, m = xs.length - k ∧ k ≤ xs.length ∧ τ 0 = va ∧ τ 1 = vb ∧ τ 5 = .int .i64 k ∧ xs.take k = ys.take k) xs.length ?_ ?_
    · refine ⟨rfl, rfl, 0, by simp, by simp, ?_, ?_, ?_, by simp⟩ <;> first | rfl | simp only [und3, und4, und22, und26, und29, und45, und64, info3, info4, info22, info26, info29, info45, info64, info50, aggT, J0, J1, J2, J3, J4, J5, J6, J7, J8, J9, J10, J11, J12, gv, dstAt, J13, J14, J15, J16, J17, J18, J19, J20, J21, J22, J23, J24, J25, J26, J27, J28, J29, J30, J31, J32, J33, J34, J35, J36, J37, J38, J39, J40, J41, J42, J43, J44, J45, J46, J47, J48, J49, J50, J51, J52, J53, J54, J55, J56, J57, J58, J59, aop, J60, J61, J62, evalsA, partsA, evalO, J63, J64, J65, J66, J67, J68, J69, J70, J71, updO, J72, ofArgs, J73, binV, intBin, J74, unV, J75, J76, mmV, builtinA, J77, J78, J79, J80, J81, J82, J83, J84, J85, J86, J87, J88, J89, Nat.reduceLT, Nat.reduceEqDiff, Nat.reduceAdd, Nat.reduceSub, Nat.reduceMul, reduceIte, J90, J91, J92, reduceCtorEq, J93, J94, J95, J96, J97, J98, J99, J100]
    · rintro m τ ds S' ⟨rfl, rfl, k, rfl, hk, t0, t1, t5, hp⟩
      have hlen : xs.length = ys.length := by simp at h1; omega
      by_cases hlt : k < xs.length
      · have e1 : decide ((k : Int) < xs.length) = true := by simpa using hlt
        obtain ⟨p, p1, p2, _⟩ := ha.at1 (T := TT) (k := .i64) und26 info3 und3 rfl rfl hlt
        have hlt2 : k < ys.length := by omega
        obtain ⟨q, q1, q2, _⟩ := hb.at1 (T := TT) (k := .i64) und26 info3 und3 rfl rfl hlt2
        rw [iv_get, List.getElem?_eq_getElem hlt] at p2
        rw [iv_get, List.getElem?_eq_getElem hlt2] at q2
        have hw := wrap_succ (k := k) (by omega)
        repeat (first | with_reducible refine W_seq ?_ | with_reducible refine W_block ?_ | with_reducible refine W_scope ?_ | ((first | with_reducible refine W_regionV hTT ?_ | with_reducible refine W_condV ?_ | with_reducible refine W_ret ?_ | with_reducible refine W_exit ?_ | with_reducible refine W_skip ?_ | with_reducible refine W_label ?_ | with_reducible refine W_drawV hTT (by kernel_rfl) ?_); try simp only [und3, und4, und22, und26, und29, und45, und64, info3, info4, info22, info26, info29, info45, info64, info50, aggT, J0, J1, J2, J3, J4, J5, J6, J7, J8, J9, J10, J11, J12, gv, dstAt, J13, J14, J15, J16, J17, J18, J19, J20, J21, J22, J23, J24, J25, J26, J27, J28, J29, J30, J31, J32, J33, J34, J35, J36, J37, J38, J39, J40, J41, J42, J43, J44, J45, J46, J47, J48, J49, J50, J51, J52, J53, J54, J55, J56, J57, J58, J59, aop, J60, J61, J62, evalsA, partsA, evalO, J63, J64, J65, J66, J67, J68, J69, J70, J71, updO, J72, ofArgs, J73, binV, intBin, J74, unV, J75, J76, mmV, builtinA, J77, J78, J79, J80, J81, J82, J83, J84, J85, J86, J87, J88, J89, Nat.reduceLT, Nat.reduceEqDiff, Nat.reduceAdd, Nat.reduceSub, Nat.reduceMul, reduceIte, J90, J91, J92, reduceCtorEq, J93, J94, J95, J96, J97, J98, J99, J100, hla, hlb, t0, t1, t5, e1, p1, p2, q1, q2, hw]))
        refine VIf_split (fun h2 => ?_) (fun h2 => ?_)
        · repeat (first | with_reducible refine W_seq ?_ | with_reducible refine W_block ?_ | with_reducible refine W_scope ?_ | ((first | with_reducible refine W_regionV hTT ?_ | with_reducible refine W_condV ?_ | with_reducible refine W_ret ?_ | with_reducible refine W_exit ?_ | with_reducible refine W_skip ?_ | with_reducible refine W_label ?_ | with_reducible refine W_drawV hTT (by kernel_rfl) ?_); try simp only [und3, und4, und22, und26, und29, und45, und64, info3, info4, info22, info26, info29, info45, info64, info50, aggT, J0, J1, J2, J3, J4, J5, J6, J7, J8, J9, J10, J11, J12, gv, dstAt, J13, J14, J15, J16, J17, J18, J19, J20, J21, J22, J23, J24, J25, J26, J27, J28, J29, J30, J31, J32, J33, J34, J35, J36, J37, J38, J39, J40, J41, J42, J43, J44, J45, J46, J47, J48, J49, J50, J51, J52, J53, J54, J55, J56, J57, J58, J59, aop, J60, J61, J62, evalsA, partsA, evalO, J63, J64, J65, J66, J67, J68, J69, J70, J71, updO, J72, ofArgs, J73, binV, intBin, J74, unV, J75, J76, mmV, builtinA, J77, J78, J79, J80, J81, J82, J83, J84, J85, J86, J87, J88, J89, Nat.reduceLT, Nat.reduceEqDiff, Nat.reduceAdd, Nat.reduceSub, Nat.reduceMul, reduceIte, J90, J91, J92, reduceCtorEq, J93, J94, J95, J96, J97, J98, J99, J100]))
          congr 1
          simp only [Bool.false_eq, decide_eq_false_iff_not]
          rintro rfl
          simp at h2
        · repeat (first | with_reducible refine W_seq ?_ | with_reducible refine W_block ?_ | with_reducible refine W_scope ?_ | ((first | with_reducible refine W_regionV hTT ?_ | with_reducible refine W_condV ?_ | with_reducible refine W_ret ?_ | with_reducible refine W_exit ?_ | with_reducible refine W_skip ?_ | with_reducible refine W_label ?_ | with_reducible refine W_drawV hTT (by kernel_rfl) ?_); try simp only [und3, und4, und22, und26, und29, und45, und64, info3, info4, info22, info26, info29, info45, info64, info50, aggT, J0, J1, J2, J3, J4, J5, J6, J7, J8, J9, J10, J11, J12, gv, dstAt, J13, J14, J15, J16, J17, J18, J19, J20, J21, J22, J23, J24, J25, J26, J27, J28, J29, J30, J31, J32, J33, J34, J35, J36, J37, J38, J39, J40, J41, J42, J43, J44, J45, J46, J47, J48, J49, J50, J51, J52, J53, J54, J55, J56, J57, J58, J59, aop, J60, J61, J62, evalsA, partsA, evalO, J63, J64, J65, J66, J67, J68, J69, J70, J71, updO, J72, ofArgs, J73, binV, intBin, J74, unV, J75, J76, mmV, builtinA, J77, J78, J79, J80, J81, J82, J83, J84, J85, J86, J87, J88, J89, Nat.reduceLT, Nat.reduceEqDiff, Nat.reduceAdd, Nat.reduceSub, Nat.reduceMul, reduceIte, J90, J91, J92, reduceCtorEq, J93, J94, J95, J96, J97, J98, J99, J100, t0, t1, t5, hw]))
          refine LoopQ_intro (xs.length - (k + 1)) (by omega) ⟨rfl, rfl, k + 1, rfl, by omega, by simp only [und3, und4, und22, und26, und29, und45, und64, info3, info4, info22, info26, info29, info45, info64, info50, aggT, J0, J1, J2, J3, J4, J5, J6, J7, J8, J9, J10, J11, J12, gv, dstAt, J13, J14, J15, J16, J17, J18, J19, J20, J21, J22, J23, J24, J25, J26, J27, J28, J29, J30, J31, J32, J33, J34, J35, J36, J37, J38, J39, J40, J41, J42, J43, J44, J45, J46, J47, J48, J49, J50, J51, J52, J53, J54, J55, J56, J57, J58, J59, aop, J60, J61, J62, evalsA, partsA, evalO, J63, J64, J65, J66, J67, J68, J69, J70, J71, updO, J72, ofArgs, J73, binV, intBin, J74, unV, J75, J76, mmV, builtinA, J77, J78, J79, J80, J81, J82, J83, J84, J85, J86, J87, J88, J89, Nat.reduceLT, Nat.reduceEqDiff, Nat.reduceAdd, Nat.reduceSub, Nat.reduceMul, reduceIte, J90, J91, J92, reduceCtorEq, J93, J94, J95, J96, J97, J98, J99, J100, t0], by simp only [und3, und4, und22, und26, und29, und45, und64, info3, info4, info22, info26, info29, info45, info64, info50, aggT, J0, J1, J2, J3, J4, J5, J6, J7, J8, J9, J10, J11, J12, gv, dstAt, J13, J14, J15, J16, J17, J18, J19, J20, J21, J22, J23, J24, J25, J26, J27, J28, J29, J30, J31, J32, J33, J34, J35, J36, J37, J38, J39, J40, J41, J42, J43, J44, J45, J46, J47, J48, J49, J50, J51, J52, J53, J54, J55, J56, J57, J58, J59, aop, J60, J61, J62, evalsA, partsA, evalO, J63, J64, J65, J66, J67, J68, J69, J70, J71, updO, J72, ofArgs, J73, binV, intBin, J74, unV, J75, J76, mmV, builtinA, J77, J78, J79, J80, J81, J82, J83, J84, J85, J86, J87, J88, J89, Nat.reduceLT, Nat.reduceEqDiff, Nat.reduceAdd, Nat.reduceSub, Nat.reduceMul, reduceIte, J90, J91, J92, reduceCtorEq, J93, J94, J95, J96, J97, J98, J99, J100, t1], by simp only [und3, und4, und22, und26, und29, und45, und64, info3, info4, info22, info26, info29, info45, info64, info50, aggT, J0, J1, J2, J3, J4, J5, J6, J7, J8, J9, J10, J11, J12, gv, dstAt, J13, J14, J15, J16, J17, J18, J19, J20, J21, J22, J23, J24, J25, J26, J27, J28, J29, J30, J31, J32, J33, J34, J35, J36, J37, J38, J39, J40, J41, J42, J43, J44, J45, J46, J47, J48, J49, J50, J51, J52, J53, J54, J55, J56, J57, J58, J59, aop, J60, J61, J62, evalsA, partsA, evalO, J63, J64, J65, J66, J67, J68, J69, J70, J71, updO, J72, ofArgs, J73, binV, intBin, J74, unV, J75, J76, mmV, builtinA, J77, J78, J79, J80, J81, J82, J83, J84, J85, J86, J87, J88, J89, Nat.reduceLT, Nat.reduceEqDiff, Nat.reduceAdd, Nat.reduceSub, Nat.reduceMul, reduceIte, J90, J91, J92, reduceCtorEq, J93, J94, J95, J96, J97, J98, J99, J100, t5], ?_⟩
          have hx : xs[k] = ys[k] := by simpa using h2
          rw [List.take_succ_eq_append_getElem hlt, List.take_succ_eq_append_getElem hlt2, hp, hx]
      · have e1 : decide ((k : Int) < xs.length) = false := by simpa using hlt
        repeat (first | with_reducible refine W_seq ?_ | with_reducible refine W_block ?_ | with_reducible refine W_scope ?_ | ((first | with_reducible refine W_regionV hTT ?_ | with_reducible refine W_condV ?_ | with_reducible refine W_ret ?_ | with_reducible refine W_exit ?_ | with_reducible refine W_skip ?_ | with_reducible refine W_label ?_ | with_reducible refine W_drawV hTT (by kernel_rfl) ?_); try simp only [und3, und4, und22, und26, und29, und45, und64, info3, info4, info22, info26, info29, info45, info64, info50, aggT, J0, J1, J2, J3, J4, J5, J6, J7, J8, J9, J10, J11, J12, gv, dstAt, J13, J14, J15, J16, J17, J18, J19, J20, J21, J22, J23, J24, J25, J26, J27, J28, J29, J30, J31, J32, J33, J34, J35, J36, J37, J38, J39, J40, J41, J42, J43, J44, J45, J46, J47, J48, J49, J50, J51, J52, J53, J54, J55, J56, J57, J58, J59, aop, J60, J61, J62, evalsA, partsA, evalO, J63, J64, J65, J66, J67, J68, J69, J70, J71, updO, J72, ofArgs, J73, binV, intBin, J74, unV, J75, J76, mmV, builtinA, J77, J78, J79, J80, J81, J82, J83, J84, J85, J86, J87, J88, J89, Nat.reduceLT, Nat.reduceEqDiff, Nat.reduceAdd, Nat.reduceSub, Nat.reduceMul, reduceIte, J90, J91, J92, reduceCtorEq, J93, J94, J95, J96, J97, J98, J99, J100, hla, hlb, t0, t1, t5, e1]))
        congr 1
        have hkk : k = xs.length := by omega
        subst hkk
        rw [List.take_length, hlen, List.take_length] at hp
        simp [hp]

theorem fn46 : TT.fn 46 = some Tryz.f46 := by kernel_rfl
theorem within_call (S : St) (x lo hi : Int) : CallW PP 46 [.int .i64 x, .int .i64 lo, .int .i64 hi] S (fun v S' => v = .bool (decide (lo ≤ x ∧ x ≤ hi)) ∧ S' = S) := by
  refine CallW_of hTT fn46 rfl (by simp [Tryz.f46]) ?_
  unfold Tryz.f46
  by_cases h1 : x ≥ lo
  · have e1 : decide (x ≥ lo) = true := decide_eq_true h1
    repeat (first | with_reducible refine W_seq ?_ | with_reducible refine W_block ?_ | with_reducible refine W_scope ?_ | ((first | with_reducible refine W_regionV hTT ?_ | with_reducible refine W_condV ?_ | with_reducible refine W_ret ?_ | with_reducible refine W_exit ?_ | with_reducible refine W_skip ?_ | with_reducible refine W_label ?_ | with_reducible refine W_drawV hTT (by kernel_rfl) ?_); try simp only [und3, und4, und22, und26, und29, und45, und64, info3, info4, info22, info26, info29, info45, info64, info50, aggT, J0, J1, J2, J3, J4, J5, J6, J7, J8, J9, J10, J11, J12, gv, dstAt, J13, J14, J15, J16, J17, J18, J19, J20, J21, J22, J23, J24, J25, J26, J27, J28, J29, J30, J31, J32, J33, J34, J35, J36, J37, J38, J39, J40, J41, J42, J43, J44, J45, J46, J47, J48, J49, J50, J51, J52, J53, J54, J55, J56, J57, J58, J59, aop, J60, J61, J62, evalsA, partsA, evalO, J63, J64, J65, J66, J67, J68, J69, J70, J71, updO, J72, ofArgs, J73, binV, intBin, J74, unV, J75, J76, mmV, builtinA, J77, J78, J79, J80, J81, J82, J83, J84, J85, J86, J87, J88, J89, Nat.reduceLT, Nat.reduceEqDiff, Nat.reduceAdd, Nat.reduceSub, Nat.reduceMul, reduceIte, J90, J91, J92, reduceCtorEq, J93, J94, J95, J96, J97, J98, J99, J100, e1]))
    simp; omega
  · have e1 : decide (x ≥ lo) = false := decide_eq_false h1
    repeat (first | with_reducible refine W_seq ?_ | with_reducible refine W_block ?_ | with_reducible refine W_scope ?_ | ((first | with_reducible refine W_regionV hTT ?_ | with_reducible refine W_condV ?_ | with_reducible refine W_ret ?_ | with_reducible refine W_exit ?_ | with_reducible refine W_skip ?_ | with_reducible refine W_label ?_ | with_reducible refine W_drawV hTT (by kernel_rfl) ?_); try simp only [und3, und4, und22, und26, und29, und45, und64, info3, info4, info22, info26, info29, info45, info64, info50, aggT, J0, J1, J2, J3, J4, J5, J6, J7, J8, J9, J10, J11, J12, gv, dstAt, J13, J14, J15, J16, J17, J18, J19, J20, J21, J22, J23, J24, J25, J26, J27, J28, J29, J30, J31, J32, J33, J34, J35, J36, J37, J38, J39, J40, J41, J42, J43, J44, J45, J46, J47, J48, J49, J50, J51, J52, J53, J54, J55, J56, J57, J58, J59, aop, J60, J61, J62, evalsA, partsA, evalO, J63, J64, J65, J66, J67, J68, J69, J70, J71, updO, J72, ofArgs, J73, binV, intBin, J74, unV, J75, J76, mmV, builtinA, J77, J78, J79, J80, J81, J82, J83, J84, J85, J86, J87, J88, J89, Nat.reduceLT, Nat.reduceEqDiff, Nat.reduceAdd, Nat.reduceSub, Nat.reduceMul, reduceIte, J90, J91, J92, reduceCtorEq, J93, J94, J95, J96, J97, J98, J99, J100, e1]))
    simp; omega
theorem iv_take (l : List Int) (k : Nat) : (iv l).take k = iv (l.take k) := by simp [iv]
theorem iv_drop (l : List Int) (k : Nat) : (iv l).drop k = iv (l.drop k) := by simp [iv]
theorem iv_append (l k : List Int) : iv l ++ iv k = iv (l ++ k) := by simp [iv]
theorem ones_iv (l : List Int) : ones (iv l) = true := by
  unfold ones iv
  rw [List.all_map, List.all_eq_true]
  intro x _
  rfl
theorem fn10 : TT.fn 10 = some Tryz.f10 := by kernel_rfl
/-- list -/
theorem list_call {S : St} (hok : S.ok) {va : Value} {xs : List Int} (ha : Sl S 1 va (iv xs) xs.length) (hpl : Plain va xs.length) :
    CallW PP 10 [va] S (fun v S' => Mine S' 3 1 S.n v (iv (xs.take 31)) (xs.take 31).length ∧ Ext S S') := by
  have hla := ha.len (T := TT) und26
  refine CallW_of hTT fn10 rfl (by simp [Tryz.f10]) ?_
  unfold Tryz.f10
  have hmin : min (xs.length : Int) 31 = ((min xs.length 31 : Nat) : Int) := by omega
  obtain ⟨u, hu, hsl, hbase⟩ := ha.cut (T := TT) (lo := 0) (hi := min xs.length 31) (l := none) (r := some (.int .i64 ((min xs.length 31 : Nat) : Int))) und26 info3 rfl (by decide) (.inl ⟨rfl, rfl⟩) (.inr ⟨_, rfl⟩) (Nat.zero_le _) (Nat.min_le_left _ _) hpl
  have hcs : (List.drop (0 * 1) (List.take (min xs.length 31 * 1) (iv xs))) = iv (xs.take 31) := by
    rw [Nat.zero_mul, List.drop_zero, Nat.mul_one, iv_take]
    congr 1
    rw [List.take_eq_take_iff]
    omega
  have hn : min xs.length 31 - 0 = (xs.take 31).length := by rw [List.length_take]; omega
  rw [hcs, hn] at hsl
  obtain ⟨v', S', h1, h2, h3, h4⟩ := (Mine.nil S 3 1 S.n).append (T := TT) (ty := 26) (ty2 := 26) (x := u) hok (Nat.le_refl _) und26 und26 rfl info3 rfl (by decide) rfl hsl.lenA hsl.src (ones_iv _) (by rw [iv_len]; omega) (grow_ok (by rw [List.length_take]; simp; omega) (by rw [List.length_take]; omega))
  repeat (first | with_reducible refine W_seq ?_ | with_reducible refine W_block ?_ | with_reducible refine W_scope ?_ | ((first | with_reducible refine W_regionV hTT ?_ | with_reducible refine W_condV ?_ | with_reducible refine W_ret ?_ | with_reducible refine W_exit ?_ | with_reducible refine W_skip ?_ | with_reducible refine W_label ?_ | with_reducible refine W_drawV hTT (by kernel_rfl) ?_); try simp only [und3, und4, und22, und26, und29, und45, und64, info3, info4, info22, info26, info29, info45, info64, info50, aggT, J0, J1, J2, J3, J4, J5, J6, J7, J8, J9, J10, J11, J12, gv, dstAt, J13, J14, J15, J16, J17, J18, J19, J20, J21, J22, J23, J24, J25, J26, J27, J28, J29, J30, J31, J32, J33, J34, J35, J36, J37, J38, J39, J40, J41, J42, J43, J44, J45, J46, J47, J48, J49, J50, J51, J52, J53, J54, J55, J56, J57, J58, J59, aop, J60, J61, J62, evalsA, partsA, evalO, J63, J64, J65, J66, J67, J68, J69, J70, J71, updO, J72, ofArgs, J73, binV, intBin, J74, unV, J75, J76, mmV, builtinA, J77, J78, J79, J80, J81, J82, J83, J84, J85, J86, J87, J88, J89, Nat.reduceLT, Nat.reduceEqDiff, Nat.reduceAdd, Nat.reduceSub, Nat.reduceMul, reduceIte, J90, J91, J92, reduceCtorEq, J93, J94, J95, J96, J97, J98, J99, J100, hla, hmin, hu, h1]))
  refine ⟨by simpa using h2, h3.ok, h3.n, fun i hi => h3.same i hi (by simp [baseOf]), h3.mono⟩
end Go.Proofs.Sz
end
/- part Zc -/
section
namespace Go.Proofs.Sz
open Go Go.Ax Go.Proofs Go.RowKit
theorem fn32 : TT.fn 32 = some Tryz.f32 := by kernel_rfl
/-- where the first one is; -1: nowhere -/
def idx (p : Int → Bool) (l : List Int) : Int := match l.findIdx? p with | some i => i | none => -1
theorem idx_at {p : Int → Bool} {l : List Int} {k : Nat} (h : k < l.length) (hk : p l[k] = true) (hb : ∀ i (h : i < l.length), i < k → p l[i] = false) : idx p l = k := by
  unfold idx
  have : l.findIdx? p = some k := by
    rw [List.findIdx?_eq_some_iff_getElem]
    exact ⟨h, hk, fun j hj => by simp [hb j (by omega) hj]⟩
  rw [this]
theorem idx_none {p : Int → Bool} {l : List Int} (hb : ∀ i (h : i < l.length), p l[i] = false) : idx p l = -1 := by
  unfold idx
  have : l.findIdx? p = none := by
    rw [List.findIdx?_eq_none_iff]
    intro x hx
    obtain ⟨i, hi, rfl⟩ := List.getElem_of_mem hx
    exact hb i hi
  rw [this]
/-- slices.IndexFunc at a list of numbers -/
theorem indexFunc_call {S : St} {va : Value} {xs : List Int} (ha : Sl S 1 va (iv xs) xs.length) (hbig : xs.length < 4611686018427387904) {g : FuncId} {cs : List Value} {p : Int → Bool}
    (hp : ∀ x ∈ xs, CallW PP g ([.int .i64 x] ++ cs) S (fun v S' => v = .bool (p x) ∧ S' = S)) :
    CallW PP 32 [va, .func (.func g) #[] cs.toArray] S (fun v S' => v = .int .i64 (idx p xs) ∧ S' = S) := by
  have hla := ha.len (T := TT) und26
  refine CallW_of hTT fn32 rfl (by simp [Tryz.f32]) ?_
  unfold Tryz.f32
  repeat (first | with_reducible refine W_seq ?_ | with_reducible refine W_block ?_ | with_reducible refine W_scope ?_ | ((first | with_reducible refine W_regionV hTT ?_ | with_reducible refine W_condV ?_ | with_reducible refine W_ret ?_ | with_reducible refine W_exit ?_ | with_reducible refine W_skip ?_ | with_reducible refine W_label ?_ | with_reducible refine W_drawV hTT (by kernel_rfl) ?_); try simp only [und3, und4, und22, und26, und29, und45, und64, info3, info4, info22, info26, info29, info45, info64, info50, aggT, J0, J1, J2, J3, J4, J5, J6, J7, J8, J9, J10, J11, J12, gv, dstAt, J13, J14, J15, J16, J17, J18, J19, J20, J21, J22, J23, J24, J25, J26, J27, J28, J29, J30, J31, J32, J33, J34, J35, J36, J37, J38, J39, J40, J41, J42, J43, J44, J45, J46, J47, J48, J49, J50, J51, J52, J53, J54, J55, J56, J57, J58, J59, aop, J60, J61, J62, evalsA, partsA, evalO, J63, J64, J65, J66, J67, J68, J69, J70, J71, updO, J72, ofArgs, J73, binV, intBin, J74, unV, J75, J76, mmV, builtinA, J77, J78, J79, J80, J81, J82, J83, J84, J85, J86, J87, J88, J89, Nat.reduceLT, Nat.reduceEqDiff, Nat.reduceAdd, Nat.reduceSub, Nat.reduceMul, reduceIte, J90, J91, J92, reduceCtorEq, J93, J94, J95, J96, J97, J98, J99, J100, hla]))
  refine W_loopI (fun m τ ds S' => S' = S ∧ ds = [] ∧ ∃ k : Nat, m = xs.length - k ∧ k ≤ xs.length ∧ τ 0 = va ∧ τ 1 = .func (.func g) #[] cs.toArray ∧ τ 7 = .int .i64 xs.length ∧ τ 8 = .int .i64 k ∧ ∀ i (h : i < xs.length), i < k → p xs[i] = false) xs.length ?_ ?_
  · refine ⟨rfl, rfl, 0, by simp, by simp, ?_, ?_, ?_, ?_, by simp⟩ <;> first | rfl | simp only [und3, und4, und22, und26, und29, und45, und64, info3, info4, info22, info26, info29, info45, info64, info50, aggT, J0, J1, J2, J3, J4, J5, J6, J7, J8, J9, J10, J11, J12, gv, dstAt, J13, J14, J15, J16, J17, J18, J19, J20, J21, J22, J23, J24, J25, J26, J27, J28, J29, J30, J31, J32, J33, J34, J35, J36, J37, J38, J39, J40, J41, J42, J43, J44, J45, J46, J47, J48, J49, J50, J51, J52, J53, J54, J55, J56, J57, J58, J59, aop, J60, J61, J62, evalsA, partsA, evalO, J63, J64, J65, J66, J67, J68, J69, J70, J71, updO, J72, ofArgs, J73, binV, intBin, J74, unV, J75, J76, mmV, builtinA, J77, J78, J79, J80, J81, J82, J83, J84, J85, J86, J87, J88, J89, Nat.reduceLT, Nat.reduceEqDiff, Nat.reduceAdd, Nat.reduceSub, Nat.reduceMul, reduceIte, J90, J91, J92, reduceCtorEq, J93, J94, J95, J96, J97, J98, J99, J100]
  · rintro m τ ds S' ⟨rfl, rfl, k, rfl, hk, t0, t1, t7, t8, hb⟩
    by_cases hlt : k < xs.length
    · have e1 : decide ((k : Int) < xs.length) = true := by simpa using hlt
      obtain ⟨q, p1, p2, _⟩ := ha.at1 (T := TT) (k := .i64) und26 info3 und3 rfl rfl hlt
      rw [iv_get, List.getElem?_eq_getElem hlt] at p2
      have hw := wrap_succ (k := k) (by omega)
      repeat (first | with_reducible refine W_seq ?_ | with_reducible refine W_block ?_ | with_reducible refine W_scope ?_ | ((first | with_reducible refine W_regionV hTT ?_ | with_reducible refine W_condV ?_ | with_reducible refine W_ret ?_ | with_reducible refine W_exit ?_ | with_reducible refine W_skip ?_ | with_reducible refine W_label ?_ | with_reducible refine W_drawV hTT (by kernel_rfl) ?_); try simp only [und3, und4, und22, und26, und29, und45, und64, info3, info4, info22, info26, info29, info45, info64, info50, aggT, J0, J1, J2, J3, J4, J5, J6, J7, J8, J9, J10, J11, J12, gv, dstAt, J13, J14, J15, J16, J17, J18, J19, J20, J21, J22, J23, J24, J25, J26, J27, J28, J29, J30, J31, J32, J33, J34, J35, J36, J37, J38, J39, J40, J41, J42, J43, J44, J45, J46, J47, J48, J49, J50, J51, J52, J53, J54, J55, J56, J57, J58, J59, aop, J60, J61, J62, evalsA, partsA, evalO, J63, J64, J65, J66, J67, J68, J69, J70, J71, updO, J72, ofArgs, J73, binV, intBin, J74, unV, J75, J76, mmV, builtinA, J77, J78, J79, J80, J81, J82, J83, J84, J85, J86, J87, J88, J89, Nat.reduceLT, Nat.reduceEqDiff, Nat.reduceAdd, Nat.reduceSub, Nat.reduceMul, reduceIte, J90, J91, J92, reduceCtorEq, J93, J94, J95, J96, J97, J98, J99, J100, hla, t0, t1, t7, t8, e1, p1, p2, hw]))
      refine VCall_intro (hp _ (List.getElem_mem _)) ?_
      rintro v S2 ⟨rfl, rfl⟩
      simp only [und3, und4, und22, und26, und29, und45, und64, info3, info4, info22, info26, info29, info45, info64, info50, aggT, J0, J1, J2, J3, J4, J5, J6, J7, J8, J9, J10, J11, J12, gv, dstAt, J13, J14, J15, J16, J17, J18, J19, J20, J21, J22, J23, J24, J25, J26, J27, J28, J29, J30, J31, J32, J33, J34, J35, J36, J37, J38, J39, J40, J41, J42, J43, J44, J45, J46, J47, J48, J49, J50, J51, J52, J53, J54, J55, J56, J57, J58, J59, aop, J60, J61, J62, evalsA, partsA, evalO, J63, J64, J65, J66, J67, J68, J69, J70, J71, updO, J72, ofArgs, J73, binV, intBin, J74, unV, J75, J76, mmV, builtinA, J77, J78, J79, J80, J81, J82, J83, J84, J85, J86, J87, J88, J89, Nat.reduceLT, Nat.reduceEqDiff, Nat.reduceAdd, Nat.reduceSub, Nat.reduceMul, reduceIte, J90, J91, J92, reduceCtorEq, J93, J94, J95, J96, J97, J98, J99, J100]
      repeat (first | with_reducible refine W_seq ?_ | with_reducible refine W_block ?_ | with_reducible refine W_scope ?_ | ((first | with_reducible refine W_regionV hTT ?_ | with_reducible refine W_condV ?_ | with_reducible refine W_ret ?_ | with_reducible refine W_exit ?_ | with_reducible refine W_skip ?_ | with_reducible refine W_label ?_ | with_reducible refine W_drawV hTT (by kernel_rfl) ?_); try simp only [und3, und4, und22, und26, und29, und45, und64, info3, info4, info22, info26, info29, info45, info64, info50, aggT, J0, J1, J2, J3, J4, J5, J6, J7, J8, J9, J10, J11, J12, gv, dstAt, J13, J14, J15, J16, J17, J18, J19, J20, J21, J22, J23, J24, J25, J26, J27, J28, J29, J30, J31, J32, J33, J34, J35, J36, J37, J38, J39, J40, J41, J42, J43, J44, J45, J46, J47, J48, J49, J50, J51, J52, J53, J54, J55, J56, J57, J58, J59, aop, J60, J61, J62, evalsA, partsA, evalO, J63, J64, J65, J66, J67, J68, J69, J70, J71, updO, J72, ofArgs, J73, binV, intBin, J74, unV, J75, J76, mmV, builtinA, J77, J78, J79, J80, J81, J82, J83, J84, J85, J86, J87, J88, J89, Nat.reduceLT, Nat.reduceEqDiff, Nat.reduceAdd, Nat.reduceSub, Nat.reduceMul, reduceIte, J90, J91, J92, reduceCtorEq, J93, J94, J95, J96, J97, J98, J99, J100, t0, t1, t7, t8]))
      refine VIf_split (fun h2 => ?_) (fun h2 => ?_)
      · repeat (first | with_reducible refine W_seq ?_ | with_reducible refine W_block ?_ | with_reducible refine W_scope ?_ | ((first | with_reducible refine W_regionV hTT ?_ | with_reducible refine W_condV ?_ | with_reducible refine W_ret ?_ | with_reducible refine W_exit ?_ | with_reducible refine W_skip ?_ | with_reducible refine W_label ?_ | with_reducible refine W_drawV hTT (by kernel_rfl) ?_); try simp only [und3, und4, und22, und26, und29, und45, und64, info3, info4, info22, info26, info29, info45, info64, info50, aggT, J0, J1, J2, J3, J4, J5, J6, J7, J8, J9, J10, J11, J12, gv, dstAt, J13, J14, J15, J16, J17, J18, J19, J20, J21, J22, J23, J24, J25, J26, J27, J28, J29, J30, J31, J32, J33, J34, J35, J36, J37, J38, J39, J40, J41, J42, J43, J44, J45, J46, J47, J48, J49, J50, J51, J52, J53, J54, J55, J56, J57, J58, J59, aop, J60, J61, J62, evalsA, partsA, evalO, J63, J64, J65, J66, J67, J68, J69, J70, J71, updO, J72, ofArgs, J73, binV, intBin, J74, unV, J75, J76, mmV, builtinA, J77, J78, J79, J80, J81, J82, J83, J84, J85, J86, J87, J88, J89, Nat.reduceLT, Nat.reduceEqDiff, Nat.reduceAdd, Nat.reduceSub, Nat.reduceMul, reduceIte, J90, J91, J92, reduceCtorEq, J93, J94, J95, J96, J97, J98, J99, J100, t8]))
        congr 1
        exact (idx_at hlt h2 hb).symm
      · repeat (first | with_reducible refine W_seq ?_ | with_reducible refine W_block ?_ | with_reducible refine W_scope ?_ | ((first | with_reducible refine W_regionV hTT ?_ | with_reducible refine W_condV ?_ | with_reducible refine W_ret ?_ | with_reducible refine W_exit ?_ | with_reducible refine W_skip ?_ | with_reducible refine W_label ?_ | with_reducible refine W_drawV hTT (by kernel_rfl) ?_); try simp only [und3, und4, und22, und26, und29, und45, und64, info3, info4, info22, info26, info29, info45, info64, info50, aggT, J0, J1, J2, J3, J4, J5, J6, J7, J8, J9, J10, J11, J12, gv, dstAt, J13, J14, J15, J16, J17, J18, J19, J20, J21, J22, J23, J24, J25, J26, J27, J28, J29, J30, J31, J32, J33, J34, J35, J36, J37, J38, J39, J40, J41, J42, J43, J44, J45, J46, J47, J48, J49, J50, J51, J52, J53, J54, J55, J56, J57, J58, J59, aop, J60, J61, J62, evalsA, partsA, evalO, J63, J64, J65, J66, J67, J68, J69, J70, J71, updO, J72, ofArgs, J73, binV, intBin, J74, unV, J75, J76, mmV, builtinA, J77, J78, J79, J80, J81, J82, J83, J84, J85, J86, J87, J88, J89, Nat.reduceLT, Nat.reduceEqDiff, Nat.reduceAdd, Nat.reduceSub, Nat.reduceMul, reduceIte, J90, J91, J92, reduceCtorEq, J93, J94, J95, J96, J97, J98, J99, J100, t0, t1, t7, t8, hw]))
        refine LoopQ_intro (xs.length - (k + 1)) (by omega) ⟨rfl, rfl, k + 1, rfl, by omega, by simp only [und3, und4, und22, und26, und29, und45, und64, info3, info4, info22, info26, info29, info45, info64, info50, aggT, J0, J1, J2, J3, J4, J5, J6, J7, J8, J9, J10, J11, J12, gv, dstAt, J13, J14, J15, J16, J17, J18, J19, J20, J21, J22, J23, J24, J25, J26, J27, J28, J29, J30, J31, J32, J33, J34, J35, J36, J37, J38, J39, J40, J41, J42, J43, J44, J45, J46, J47, J48, J49, J50, J51, J52, J53, J54, J55, J56, J57, J58, J59, aop, J60, J61, J62, evalsA, partsA, evalO, J63, J64, J65, J66, J67, J68, J69, J70, J71, updO, J72, ofArgs, J73, binV, intBin, J74, unV, J75, J76, mmV, builtinA, J77, J78, J79, J80, J81, J82, J83, J84, J85, J86, J87, J88, J89, Nat.reduceLT, Nat.reduceEqDiff, Nat.reduceAdd, Nat.reduceSub, Nat.reduceMul, reduceIte, J90, J91, J92, reduceCtorEq, J93, J94, J95, J96, J97, J98, J99, J100, t0], by simp only [und3, und4, und22, und26, und29, und45, und64, info3, info4, info22, info26, info29, info45, info64, info50, aggT, J0, J1, J2, J3, J4, J5, J6, J7, J8, J9, J10, J11, J12, gv, dstAt, J13, J14, J15, J16, J17, J18, J19, J20, J21, J22, J23, J24, J25, J26, J27, J28, J29, J30, J31, J32, J33, J34, J35, J36, J37, J38, J39, J40, J41, J42, J43, J44, J45, J46, J47, J48, J49, J50, J51, J52, J53, J54, J55, J56, J57, J58, J59, aop, J60, J61, J62, evalsA, partsA, evalO, J63, J64, J65, J66, J67, J68, J69, J70, J71, updO, J72, ofArgs, J73, binV, intBin, J74, unV, J75, J76, mmV, builtinA, J77, J78, J79, J80, J81, J82, J83, J84, J85, J86, J87, J88, J89, Nat.reduceLT, Nat.reduceEqDiff, Nat.reduceAdd, Nat.reduceSub, Nat.reduceMul, reduceIte, J90, J91, J92, reduceCtorEq, J93, J94, J95, J96, J97, J98, J99, J100, t1], by simp only [und3, und4, und22, und26, und29, und45, und64, info3, info4, info22, info26, info29, info45, info64, info50, aggT, J0, J1, J2, J3, J4, J5, J6, J7, J8, J9, J10, J11, J12, gv, dstAt, J13, J14, J15, J16, J17, J18, J19, J20, J21, J22, J23, J24, J25, J26, J27, J28, J29, J30, J31, J32, J33, J34, J35, J36, J37, J38, J39, J40, J41, J42, J43, J44, J45, J46, J47, J48, J49, J50, J51, J52, J53, J54, J55, J56, J57, J58, J59, aop, J60, J61, J62, evalsA, partsA, evalO, J63, J64, J65, J66, J67, J68, J69, J70, J71, updO, J72, ofArgs, J73, binV, intBin, J74, unV, J75, J76, mmV, builtinA, J77, J78, J79, J80, J81, J82, J83, J84, J85, J86, J87, J88, J89, Nat.reduceLT, Nat.reduceEqDiff, Nat.reduceAdd, Nat.reduceSub, Nat.reduceMul, reduceIte, J90, J91, J92, reduceCtorEq, J93, J94, J95, J96, J97, J98, J99, J100, t7], by simp only [und3, und4, und22, und26, und29, und45, und64, info3, info4, info22, info26, info29, info45, info64, info50, aggT, J0, J1, J2, J3, J4, J5, J6, J7, J8, J9, J10, J11, J12, gv, dstAt, J13, J14, J15, J16, J17, J18, J19, J20, J21, J22, J23, J24, J25, J26, J27, J28, J29, J30, J31, J32, J33, J34, J35, J36, J37, J38, J39, J40, J41, J42, J43, J44, J45, J46, J47, J48, J49, J50, J51, J52, J53, J54, J55, J56, J57, J58, J59, aop, J60, J61, J62, evalsA, partsA, evalO, J63, J64, J65, J66, J67, J68, J69, J70, J71, updO, J72, ofArgs, J73, binV, intBin, J74, unV, J75, J76, mmV, builtinA, J77, J78, J79, J80, J81, J82, J83, J84, J85, J86, J87, J88, J89, Nat.reduceLT, Nat.reduceEqDiff, Nat.reduceAdd, Nat.reduceSub, Nat.reduceMul, reduceIte, J90, J91, J92, reduceCtorEq, J93, J94, J95, J96, J97, J98, J99, J100, t8], ?_⟩
        intro i hi hik
        by_cases e : i = k
        · subst e; exact h2
        · exact hb i hi (by omega)
    · have e1 : decide ((k : Int) < xs.length) = false := by simpa using hlt
      repeat (first | with_reducible refine W_seq ?_ | with_reducible refine W_block ?_ | with_reducible refine W_scope ?_ | ((first | with_reducible refine W_regionV hTT ?_ | with_reducible refine W_condV ?_ | with_reducible refine W_ret ?_ | with_reducible refine W_exit ?_ | with_reducible refine W_skip ?_ | with_reducible refine W_label ?_ | with_reducible refine W_drawV hTT (by kernel_rfl) ?_); try simp only [und3, und4, und22, und26, und29, und45, und64, info3, info4, info22, info26, info29, info45, info64, info50, aggT, J0, J1, J2, J3, J4, J5, J6, J7, J8, J9, J10, J11, J12, gv, dstAt, J13, J14, J15, J16, J17, J18, J19, J20, J21, J22, J23, J24, J25, J26, J27, J28, J29, J30, J31, J32, J33, J34, J35, J36, J37, J38, J39, J40, J41, J42, J43, J44, J45, J46, J47, J48, J49, J50, J51, J52, J53, J54, J55, J56, J57, J58, J59, aop, J60, J61, J62, evalsA, partsA, evalO, J63, J64, J65, J66, J67, J68, J69, J70, J71, updO, J72, ofArgs, J73, binV, intBin, J74, unV, J75, J76, mmV, builtinA, J77, J78, J79, J80, J81, J82, J83, J84, J85, J86, J87, J88, J89, Nat.reduceLT, Nat.reduceEqDiff, Nat.reduceAdd, Nat.reduceSub, Nat.reduceMul, reduceIte, J90, J91, J92, reduceCtorEq, J93, J94, J95, J96, J97, J98, J99, J100, hla, t0, t1, t7, t8, e1]))
      rw [idx_none (fun i hi => hb i hi (by omega))]
theorem fn47 : TT.fn 47 = some Tryz.f47 := by kernel_rfl
/-- slices.ContainsFunc at a list of numbers -/
theorem containsFunc_call {S : St} {va : Value} {xs : List Int} (ha : Sl S 1 va (iv xs) xs.length) (hbig : xs.length < 4611686018427387904) {g : FuncId} {cs : List Value} {p : Int → Bool}
    (hp : ∀ x ∈ xs, CallW PP g ([.int .i64 x] ++ cs) S (fun v S' => v = .bool (p x) ∧ S' = S)) :
    CallW PP 47 [va, .func (.func g) #[] cs.toArray] S (fun v S' => v = .bool (xs.any p) ∧ S' = S) := by
  refine CallW_of hTT fn47 rfl (by simp [Tryz.f47]) ?_
  unfold Tryz.f47
  repeat (first | with_reducible refine W_seq ?_ | with_reducible refine W_block ?_ | with_reducible refine W_scope ?_ | ((first | with_reducible refine W_regionV hTT ?_ | with_reducible refine W_condV ?_ | with_reducible refine W_ret ?_ | with_reducible refine W_exit ?_ | with_reducible refine W_skip ?_ | with_reducible refine W_label ?_ | with_reducible refine W_drawV hTT (by kernel_rfl) ?_); try simp only [und3, und4, und22, und26, und29, und45, und64, info3, info4, info22, info26, info29, info45, info64, info50, aggT, J0, J1, J2, J3, J4, J5, J6, J7, J8, J9, J10, J11, J12, gv, dstAt, J13, J14, J15, J16, J17, J18, J19, J20, J21, J22, J23, J24, J25, J26, J27, J28, J29, J30, J31, J32, J33, J34, J35, J36, J37, J38, J39, J40, J41, J42, J43, J44, J45, J46, J47, J48, J49, J50, J51, J52, J53, J54, J55, J56, J57, J58, J59, aop, J60, J61, J62, evalsA, partsA, evalO, J63, J64, J65, J66, J67, J68, J69, J70, J71, updO, J72, ofArgs, J73, binV, intBin, J74, unV, J75, J76, mmV, builtinA, J77, J78, J79, J80, J81, J82, J83, J84, J85, J86, J87, J88, J89, Nat.reduceLT, Nat.reduceEqDiff, Nat.reduceAdd, Nat.reduceSub, Nat.reduceMul, reduceIte, J90, J91, J92, reduceCtorEq, J93, J94, J95, J96, J97, J98, J99, J100]))
  refine VCall_intro (indexFunc_call ha hbig hp) ?_
  rintro v S2 ⟨rfl, rfl⟩
  simp only [und3, und4, und22, und26, und29, und45, und64, info3, info4, info22, info26, info29, info45, info64, info50, aggT, J0, J1, J2, J3, J4, J5, J6, J7, J8, J9, J10, J11, J12, gv, dstAt, J13, J14, J15, J16, J17, J18, J19, J20, J21, J22, J23, J24, J25, J26, J27, J28, J29, J30, J31, J32, J33, J34, J35, J36, J37, J38, J39, J40, J41, J42, J43, J44, J45, J46, J47, J48, J49, J50, J51, J52, J53, J54, J55, J56, J57, J58, J59, aop, J60, J61, J62, evalsA, partsA, evalO, J63, J64, J65, J66, J67, J68, J69, J70, J71, updO, J72, ofArgs, J73, binV, intBin, J74, unV, J75, J76, mmV, builtinA, J77, J78, J79, J80, J81, J82, J83, J84, J85, J86, J87, J88, J89, Nat.reduceLT, Nat.reduceEqDiff, Nat.reduceAdd, Nat.reduceSub, Nat.reduceMul, reduceIte, J90, J91, J92, reduceCtorEq, J93, J94, J95, J96, J97, J98, J99, J100]
  repeat (first | with_reducible refine W_seq ?_ | with_reducible refine W_block ?_ | with_reducible refine W_scope ?_ | ((first | with_reducible refine W_regionV hTT ?_ | with_reducible refine W_condV ?_ | with_reducible refine W_ret ?_ | with_reducible refine W_exit ?_ | with_reducible refine W_skip ?_ | with_reducible refine W_label ?_ | with_reducible refine W_drawV hTT (by kernel_rfl) ?_); try simp only [und3, und4, und22, und26, und29, und45, und64, info3, info4, info22, info26, info29, info45, info64, info50, aggT, J0, J1, J2, J3, J4, J5, J6, J7, J8, J9, J10, J11, J12, gv, dstAt, J13, J14, J15, J16, J17, J18, J19, J20, J21, J22, J23, J24, J25, J26, J27, J28, J29, J30, J31, J32, J33, J34, J35, J36, J37, J38, J39, J40, J41, J42, J43, J44, J45, J46, J47, J48, J49, J50, J51, J52, J53, J54, J55, J56, J57, J58, J59, aop, J60, J61, J62, evalsA, partsA, evalO, J63, J64, J65, J66, J67, J68, J69, J70, J71, updO, J72, ofArgs, J73, binV, intBin, J74, unV, J75, J76, mmV, builtinA, J77, J78, J79, J80, J81, J82, J83, J84, J85, J86, J87, J88, J89, Nat.reduceLT, Nat.reduceEqDiff, Nat.reduceAdd, Nat.reduceSub, Nat.reduceMul, reduceIte, J90, J91, J92, reduceCtorEq, J93, J94, J95, J96, J97, J98, J99, J100]))
  congr 1
  unfold idx
  cases h : xs.findIdx? p with
  | none =>
    rw [List.findIdx?_eq_none_iff] at h
    have : xs.any p = false := by rw [List.any_eq_false]; intro x hx; simp [h x hx]
    simp [this]
  | some i =>
    rw [List.findIdx?_eq_some_iff_getElem] at h
    obtain ⟨h1, h2, _⟩ := h
    have : xs.any p = true := List.any_eq_true.2 ⟨_, List.getElem_mem h1, h2⟩
    simp [this]
end Go.Proofs.Sz
end
/- part Zk -/
section
namespace Go.Proofs.Sz
open Go Go.Ax Go.Proofs Go.RowKit
theorem fn72 : TT.fn 72 = some Tryz.f72 := by kernel_rfl
theorem isNaN_call (S : St) (x : Int) : CallW PP 72 [.int .i64 x] S (fun v S' => v = .bool false ∧ S' = S) := by
  refine CallW_of hTT fn72 rfl (by simp [Tryz.f72]) ?_
  unfold Tryz.f72
  repeat (first | with_reducible refine W_seq ?_ | with_reducible refine W_block ?_ | with_reducible refine W_scope ?_ | ((first | with_reducible refine W_regionV hTT ?_ | with_reducible refine W_condV ?_ | with_reducible refine W_ret ?_ | with_reducible refine W_exit ?_ | with_reducible refine W_skip ?_ | with_reducible refine W_label ?_ | with_reducible refine W_drawV hTT (by kernel_rfl) ?_); try simp only [und3, und4, und22, und26, und29, und45, und64, info3, info4, info22, info26, info29, info45, info64, info50, aggT, J0, J1, J2, J3, J4, J5, J6, J7, J8, J9, J10, J11, J12, gv, dstAt, J13, J14, J15, J16, J17, J18, J19, J20, J21, J22, J23, J24, J25, J26, J27, J28, J29, J30, J31, J32, J33, J34, J35, J36, J37, J38, J39, J40, J41, J42, J43, J44, J45, J46, J47, J48, J49, J50, J51, J52, J53, J54, J55, J56, J57, J58, J59, aop, J60, J61, J62, evalsA, partsA, evalO, J63, J64, J65, J66, J67, J68, J69, J70, J71, updO, J72, ofArgs, J73, binV, intBin, J74, unV, J75, J76, mmV, builtinA, J77, J78, J79, J80, J81, J82, J83, J84, J85, J86, J87, J88, J89, Nat.reduceLT, Nat.reduceEqDiff, Nat.reduceAdd, Nat.reduceSub, Nat.reduceMul, reduceIte, J90, J91, J92, reduceCtorEq, J93, J94, J95, J96, J97, J98, J99, J100, bne_self_eq_false]))
theorem fn53 : TT.fn 53 = some Tryz.f53 := by kernel_rfl
def cmpI (a b : Int) : Int := if a < b then -1 else if b < a then 1 else 0
theorem cmp_call (S : St) (x y : Int) : CallW PP 53 [.int .i64 x, .int .i64 y] S (fun v S' => v = .int .i64 (cmpI x y) ∧ S' = S) := by
  refine CallW_of hTT fn53 rfl (by simp [Tryz.f53]) ?_
  unfold Tryz.f53
  repeat (first | with_reducible refine W_seq ?_ | with_reducible refine W_block ?_ | with_reducible refine W_scope ?_ | ((first | with_reducible refine W_regionV hTT ?_ | with_reducible refine W_condV ?_ | with_reducible refine W_ret ?_ | with_reducible refine W_exit ?_ | with_reducible refine W_skip ?_ | with_reducible refine W_label ?_ | with_reducible refine W_drawV hTT (by kernel_rfl) ?_); try simp only [und3, und4, und22, und26, und29, und45, und64, info3, info4, info22, info26, info29, info45, info64, info50, aggT, J0, J1, J2, J3, J4, J5, J6, J7, J8, J9, J10, J11, J12, gv, dstAt, J13, J14, J15, J16, J17, J18, J19, J20, J21, J22, J23, J24, J25, J26, J27, J28, J29, J30, J31, J32, J33, J34, J35, J36, J37, J38, J39, J40, J41, J42, J43, J44, J45, J46, J47, J48, J49, J50, J51, J52, J53, J54, J55, J56, J57, J58, J59, aop, J60, J61, J62, evalsA, partsA, evalO, J63, J64, J65, J66, J67, J68, J69, J70, J71, updO, J72, ofArgs, J73, binV, intBin, J74, unV, J75, J76, mmV, builtinA, J77, J78, J79, J80, J81, J82, J83, J84, J85, J86, J87, J88, J89, Nat.reduceLT, Nat.reduceEqDiff, Nat.reduceAdd, Nat.reduceSub, Nat.reduceMul, reduceIte, J90, J91, J92, reduceCtorEq, J93, J94, J95, J96, J97, J98, J99, J100]))
  refine VCall_intro (isNaN_call _ _) ?_
  rintro v S2 ⟨rfl, rfl⟩
  simp only [und3, und4, und22, und26, und29, und45, und64, info3, info4, info22, info26, info29, info45, info64, info50, aggT, J0, J1, J2, J3, J4, J5, J6, J7, J8, J9, J10, J11, J12, gv, dstAt, J13, J14, J15, J16, J17, J18, J19, J20, J21, J22, J23, J24, J25, J26, J27, J28, J29, J30, J31, J32, J33, J34, J35, J36, J37, J38, J39, J40, J41, J42, J43, J44, J45, J46, J47, J48, J49, J50, J51, J52, J53, J54, J55, J56, J57, J58, J59, aop, J60, J61, J62, evalsA, partsA, evalO, J63, J64, J65, J66, J67, J68, J69, J70, J71, updO, J72, ofArgs, J73, binV, intBin, J74, unV, J75, J76, mmV, builtinA, J77, J78, J79, J80, J81, J82, J83, J84, J85, J86, J87, J88, J89, Nat.reduceLT, Nat.reduceEqDiff, Nat.reduceAdd, Nat.reduceSub, Nat.reduceMul, reduceIte, J90, J91, J92, reduceCtorEq, J93, J94, J95, J96, J97, J98, J99, J100]
  repeat (first | with_reducible refine W_seq ?_ | with_reducible refine W_block ?_ | with_reducible refine W_scope ?_ | ((first | with_reducible refine W_regionV hTT ?_ | with_reducible refine W_condV ?_ | with_reducible refine W_ret ?_ | with_reducible refine W_exit ?_ | with_reducible refine W_skip ?_ | with_reducible refine W_label ?_ | with_reducible refine W_drawV hTT (by kernel_rfl) ?_); try simp only [und3, und4, und22, und26, und29, und45, und64, info3, info4, info22, info26, info29, info45, info64, info50, aggT, J0, J1, J2, J3, J4, J5, J6, J7, J8, J9, J10, J11, J12, gv, dstAt, J13, J14, J15, J16, J17, J18, J19, J20, J21, J22, J23, J24, J25, J26, J27, J28, J29, J30, J31, J32, J33, J34, J35, J36, J37, J38, J39, J40, J41, J42, J43, J44, J45, J46, J47, J48, J49, J50, J51, J52, J53, J54, J55, J56, J57, J58, J59, aop, J60, J61, J62, evalsA, partsA, evalO, J63, J64, J65, J66, J67, J68, J69, J70, J71, updO, J72, ofArgs, J73, binV, intBin, J74, unV, J75, J76, mmV, builtinA, J77, J78, J79, J80, J81, J82, J83, J84, J85, J86, J87, J88, J89, Nat.reduceLT, Nat.reduceEqDiff, Nat.reduceAdd, Nat.reduceSub, Nat.reduceMul, reduceIte, J90, J91, J92, reduceCtorEq, J93, J94, J95, J96, J97, J98, J99, J100]))
  refine VCall_intro (isNaN_call _ _) ?_
  rintro v S2 ⟨rfl, rfl⟩
  simp only [und3, und4, und22, und26, und29, und45, und64, info3, info4, info22, info26, info29, info45, info64, info50, aggT, J0, J1, J2, J3, J4, J5, J6, J7, J8, J9, J10, J11, J12, gv, dstAt, J13, J14, J15, J16, J17, J18, J19, J20, J21, J22, J23, J24, J25, J26, J27, J28, J29, J30, J31, J32, J33, J34, J35, J36, J37, J38, J39, J40, J41, J42, J43, J44, J45, J46, J47, J48, J49, J50, J51, J52, J53, J54, J55, J56, J57, J58, J59, aop, J60, J61, J62, evalsA, partsA, evalO, J63, J64, J65, J66, J67, J68, J69, J70, J71, updO, J72, ofArgs, J73, binV, intBin, J74, unV, J75, J76, mmV, builtinA, J77, J78, J79, J80, J81, J82, J83, J84, J85, J86, J87, J88, J89, Nat.reduceLT, Nat.reduceEqDiff, Nat.reduceAdd, Nat.reduceSub, Nat.reduceMul, reduceIte, J90, J91, J92, reduceCtorEq, J93, J94, J95, J96, J97, J98, J99, J100]
  repeat (first | with_reducible refine W_seq ?_ | with_reducible refine W_block ?_ | with_reducible refine W_scope ?_ | ((first | with_reducible refine W_regionV hTT ?_ | with_reducible refine W_condV ?_ | with_reducible refine W_ret ?_ | with_reducible refine W_exit ?_ | with_reducible refine W_skip ?_ | with_reducible refine W_label ?_ | with_reducible refine W_drawV hTT (by kernel_rfl) ?_); try simp only [und3, und4, und22, und26, und29, und45, und64, info3, info4, info22, info26, info29, info45, info64, info50, aggT, J0, J1, J2, J3, J4, J5, J6, J7, J8, J9, J10, J11, J12, gv, dstAt, J13, J14, J15, J16, J17, J18, J19, J20, J21, J22, J23, J24, J25, J26, J27, J28, J29, J30, J31, J32, J33, J34, J35, J36, J37, J38, J39, J40, J41, J42, J43, J44, J45, J46, J47, J48, J49, J50, J51, J52, J53, J54, J55, J56, J57, J58, J59, aop, J60, J61, J62, evalsA, partsA, evalO, J63, J64, J65, J66, J67, J68, J69, J70, J71, updO, J72, ofArgs, J73, binV, intBin, J74, unV, J75, J76, mmV, builtinA, J77, J78, J79, J80, J81, J82, J83, J84, J85, J86, J87, J88, J89, Nat.reduceLT, Nat.reduceEqDiff, Nat.reduceAdd, Nat.reduceSub, Nat.reduceMul, reduceIte, J90, J91, J92, reduceCtorEq, J93, J94, J95, J96, J97, J98, J99, J100]))
  refine VIf_split (fun h => ?_) (fun h => ?_)
  · repeat (first | with_reducible refine W_seq ?_ | with_reducible refine W_block ?_ | with_reducible refine W_scope ?_ | ((first | with_reducible refine W_regionV hTT ?_ | with_reducible refine W_condV ?_ | with_reducible refine W_ret ?_ | with_reducible refine W_exit ?_ | with_reducible refine W_skip ?_ | with_reducible refine W_label ?_ | with_reducible refine W_drawV hTT (by kernel_rfl) ?_); try simp only [und3, und4, und22, und26, und29, und45, und64, info3, info4, info22, info26, info29, info45, info64, info50, aggT, J0, J1, J2, J3, J4, J5, J6, J7, J8, J9, J10, J11, J12, gv, dstAt, J13, J14, J15, J16, J17, J18, J19, J20, J21, J22, J23, J24, J25, J26, J27, J28, J29, J30, J31, J32, J33, J34, J35, J36, J37, J38, J39, J40, J41, J42, J43, J44, J45, J46, J47, J48, J49, J50, J51, J52, J53, J54, J55, J56, J57, J58, J59, aop, J60, J61, J62, evalsA, partsA, evalO, J63, J64, J65, J66, J67, J68, J69, J70, J71, updO, J72, ofArgs, J73, binV, intBin, J74, unV, J75, J76, mmV, builtinA, J77, J78, J79, J80, J81, J82, J83, J84, J85, J86, J87, J88, J89, Nat.reduceLT, Nat.reduceEqDiff, Nat.reduceAdd, Nat.reduceSub, Nat.reduceMul, reduceIte, J90, J91, J92, reduceCtorEq, J93, J94, J95, J96, J97, J98, J99, J100]))
    simp [cmpI, of_decide_eq_true h]
  · repeat (first | with_reducible refine W_seq ?_ | with_reducible refine W_block ?_ | with_reducible refine W_scope ?_ | ((first | with_reducible refine W_regionV hTT ?_ | with_reducible refine W_condV ?_ | with_reducible refine W_ret ?_ | with_reducible refine W_exit ?_ | with_reducible refine W_skip ?_ | with_reducible refine W_label ?_ | with_reducible refine W_drawV hTT (by kernel_rfl) ?_); try simp only [und3, und4, und22, und26, und29, und45, und64, info3, info4, info22, info26, info29, info45, info64, info50, aggT, J0, J1, J2, J3, J4, J5, J6, J7, J8, J9, J10, J11, J12, gv, dstAt, J13, J14, J15, J16, J17, J18, J19, J20, J21, J22, J23, J24, J25, J26, J27, J28, J29, J30, J31, J32, J33, J34, J35, J36, J37, J38, J39, J40, J41, J42, J43, J44, J45, J46, J47, J48, J49, J50, J51, J52, J53, J54, J55, J56, J57, J58, J59, aop, J60, J61, J62, evalsA, partsA, evalO, J63, J64, J65, J66, J67, J68, J69, J70, J71, updO, J72, ofArgs, J73, binV, intBin, J74, unV, J75, J76, mmV, builtinA, J77, J78, J79, J80, J81, J82, J83, J84, J85, J86, J87, J88, J89, Nat.reduceLT, Nat.reduceEqDiff, Nat.reduceAdd, Nat.reduceSub, Nat.reduceMul, reduceIte, J90, J91, J92, reduceCtorEq, J93, J94, J95, J96, J97, J98, J99, J100]))
    have h1 := of_decide_eq_false h
    refine VIf_split (fun h2 => ?_) (fun h2 => ?_)
    · repeat (first | with_reducible refine W_seq ?_ | with_reducible refine W_block ?_ | with_reducible refine W_scope ?_ | ((first | with_reducible refine W_regionV hTT ?_ | with_reducible refine W_condV ?_ | with_reducible refine W_ret ?_ | with_reducible refine W_exit ?_ | with_reducible refine W_skip ?_ | with_reducible refine W_label ?_ | with_reducible refine W_drawV hTT (by kernel_rfl) ?_); try simp only [und3, und4, und22, und26, und29, und45, und64, info3, info4, info22, info26, info29, info45, info64, info50, aggT, J0, J1, J2, J3, J4, J5, J6, J7, J8, J9, J10, J11, J12, gv, dstAt, J13, J14, J15, J16, J17, J18, J19, J20, J21, J22, J23, J24, J25, J26, J27, J28, J29, J30, J31, J32, J33, J34, J35, J36, J37, J38, J39, J40, J41, J42, J43, J44, J45, J46, J47, J48, J49, J50, J51, J52, J53, J54, J55, J56, J57, J58, J59, aop, J60, J61, J62, evalsA, partsA, evalO, J63, J64, J65, J66, J67, J68, J69, J70, J71, updO, J72, ofArgs, J73, binV, intBin, J74, unV, J75, J76, mmV, builtinA, J77, J78, J79, J80, J81, J82, J83, J84, J85, J86, J87, J88, J89, Nat.reduceLT, Nat.reduceEqDiff, Nat.reduceAdd, Nat.reduceSub, Nat.reduceMul, reduceIte, J90, J91, J92, reduceCtorEq, J93, J94, J95, J96, J97, J98, J99, J100]))
      have h2 : y < x := of_decide_eq_true h2
      simp [cmpI, h1, h2]
    · repeat (first | with_reducible refine W_seq ?_ | with_reducible refine W_block ?_ | with_reducible refine W_scope ?_ | ((first | with_reducible refine W_regionV hTT ?_ | with_reducible refine W_condV ?_ | with_reducible refine W_ret ?_ | with_reducible refine W_exit ?_ | with_reducible refine W_skip ?_ | with_reducible refine W_label ?_ | with_reducible refine W_drawV hTT (by kernel_rfl) ?_); try simp only [und3, und4, und22, und26, und29, und45, und64, info3, info4, info22, info26, info29, info45, info64, info50, aggT, J0, J1, J2, J3, J4, J5, J6, J7, J8, J9, J10, J11, J12, gv, dstAt, J13, J14, J15, J16, J17, J18, J19, J20, J21, J22, J23, J24, J25, J26, J27, J28, J29, J30, J31, J32, J33, J34, J35, J36, J37, J38, J39, J40, J41, J42, J43, J44, J45, J46, J47, J48, J49, J50, J51, J52, J53, J54, J55, J56, J57, J58, J59, aop, J60, J61, J62, evalsA, partsA, evalO, J63, J64, J65, J66, J67, J68, J69, J70, J71, updO, J72, ofArgs, J73, binV, intBin, J74, unV, J75, J76, mmV, builtinA, J77, J78, J79, J80, J81, J82, J83, J84, J85, J86, J87, J88, J89, Nat.reduceLT, Nat.reduceEqDiff, Nat.reduceAdd, Nat.reduceSub, Nat.reduceMul, reduceIte, J90, J91, J92, reduceCtorEq, J93, J94, J95, J96, J97, J98, J99, J100]))
      have h2 : ¬ y < x := of_decide_eq_false h2
      simp [cmpI, h1, h2]
end Go.Proofs.Sz
end
/- part Wf -/
section
/- Regions that draw their order and make several calls, told by a function. -/
namespace Go.Ax
open Go.RowKit Go.Proofs
section
variable {P : Program} {T : Tab} {n : Nat} {ro : Option Nat} {τ : Nat → Value} {ds : List Nat} {S : St} {Q : Post}
/-- what calls come to, by a function -/
abbrev FT := FuncId → List Value → St → Option (Value × St)
def CallF (F : FT) : CS := fun c vs S Q => match c with
  | .f g => ∃ v S', F g vs S = some (v, S') ∧ Q v S'
  | .y _ => False
noncomputable def GF (F : FT) : Fns := { call := fun f a S => (F f a S).map fun r => [(r.1, some r.2)], code := fun _ _ _ _ _ => none }
theorem GF_ok {F : FT} (hF : ∀ f a S v S', F f a S = some (v, S') → CallIs P f a S [(v, some S')]) : OK P (GF F) := by
  refine ⟨?_, fun h => (by cases h)⟩
  intro f a S outs hx
  simp only [GF, Option.map_eq_some_iff] at hx
  obtain ⟨⟨v, S'⟩, h1, rfl⟩ := hx
  exact hF f a S v S' h1
noncomputable def drawStatF (n : Nat) (ops : Array Oper) : Bool :=
  statOk ops && Nat.ble (topOf ops) n && (again ops).all (fun q => q.2.isEmpty) && (news ops).isEmpty && ops.toList.all (fun o => (allocOf o.op).isNone)
theorem VCallF_intro {F : FT} {ops : Array Oper} {d : Option Tmp} {l : List Oper} {K : (Nat → Value) → St → Prop} {g : FuncId} {vs : List Value} {v : Value} {S' : St} (h : F g vs S = some (v, S')) (hk : VL (CallF F) P T n ops l (updO τ d v) S' K) : VCall (CallF F) P T n ops d l τ S K (.f g) vs := ⟨v, S', h, hk⟩
theorem canon_fn {F : FT} {ops : Array Oper} {hs : List (Option Nat)} (hhs : ∀ i, hs.getD i none = none) (hal : (ops.toList.all fun o => (allocOf o.op).isNone) = true) {K : (Nat → Value) → St → Prop} : ∀ (l : List Oper) (i : Nat) {τ : Nat → Value} {S : St}, VL (CallF F) P T n ops l τ S K → ops.toList.drop i = l →
    ∃ R τ' S', canon (GF F) P T hs ops i l (tl n τ) S = some (R, tl n τ', S') ∧ R.length = l.length ∧ entsOk ops i R = true ∧ K τ' S' := by
  intro l
  induction l with
  | nil => intro i τ S h _; exact ⟨[], τ, S, rfl, rfl, rfl, h⟩
  | cons o l ih =>
    intro i τ S h hd
    have ho : ops[i]? = some o := by
      have := congrArg (fun x => x[0]?) hd
      simpa using this
    have hl : ops.toList.drop (i + 1) = l := by
      have := congrArg List.tail hd
      simpa using this
    have hna : (allocOf o.op).isNone = true := List.all_eq_true.1 hal o (by
      have : o ∈ ops.toList.drop i := by rw [hd]; simp
      exact List.mem_of_mem_drop this)
    simp only [VL] at h
    split at h
    case isFalse hw =>
      obtain ⟨R, τ', S', g3, g4, g5, g6⟩ := ih (i + 1) h hl
      refine ⟨{ ts := tl n τ, S := S, v := undef, s := none } :: R, τ', S', ?_, by simp [g4], ?_, g6⟩
      · unfold canon
        rw [if_neg hw, tl_put, g3]
      · simp [entsOk, g5]
    case isTrue hw =>
      split at h
      case h_1 g vs hcal =>
        cases g with
        | y l9 => exact h.elim
        | f g =>
        obtain ⟨v, S1, h1, h2⟩ := h
        have hg : (GF F).call g vs S = some [(v, some S1)] := by simp only [GF, h1, Option.map_some]
        have hcv : isCallV o.op = true := calleeV_call hcal
        obtain ⟨R, τ', S', g3, g4, g5, g6⟩ := ih (i + 1) h2 hl
        refine ⟨{ ts := tl n τ, S := S, v := v, s := some S1 } :: R, τ', S', ?_, by simp [g4], ?_, g6⟩
        · unfold canon
          rw [if_pos hw]
          have hst : stepD (GF F) P T hs i (tl n τ) S o = some [(v, some S1)] := by
            unfold stepD
            rw [hhs i]
            exact (calleeV_step hcal).1.trans hg
          rw [hst]
          simp only [tl_put, Option.getD_some]
          rw [g3]
        · have hx : isX ops i = true := by
            unfold isX
            rw [ho]
            simp only [xop, hcv, Bool.true_or]
          simp [entsOk, hx, g5]
      case h_2 hcal =>
        split at h
        case h_2 => exact h.elim
        case h_1 v S1 ha =>
          have hco : isCallV o.op = false := by
            cases hh : isCallV o.op with
            | false => rfl
            | true =>
              exfalso
              unfold aop at ha
              generalize hop : o.op = op at ha hh
              cases op <;> simp [isCallV] at hh
              rename_i c
              obtain ⟨cal, args, at'⟩ := c
              cases cal <;> simp at hh ha
          obtain ⟨R, τ', S', g3, g4, g5, g6⟩ := ih (i + 1) h hl
          obtain ⟨s, q1, q2⟩ := step_of_aop ha
          refine ⟨{ ts := tl n τ, S := S, v := v, s := s } :: R, τ', S', ?_, by simp [g4], ?_, g6⟩
          · unfold canon
            rw [if_pos hw]
            have hst : stepD (GF F) P T hs i (tl n τ) S o = some [(v, s)] := by
              unfold stepD
              rw [hhs i]
              simp only
              rw [stepOp_G0 hco]
              exact q1
            rw [hst]
            simp only [tl_put, q2]
            rw [g3]
          · have hx : s.isNone = true ∨ isX ops i = true := by
              by_cases he : eff o.op = true
              · right
                unfold isX
                rw [ho]
                simp only [xop, he, hna, Bool.and_self, Bool.or_true]
              · left
                unfold stepOp at q1
                split at q1
                · rename_i f args at' hop; rw [hop] at hco; simp [isCallV] at hco
                · rw [if_neg he] at q1
                  rw [Option.map_eq_some_iff] at q1
                  obtain ⟨l0, _, hl0⟩ := q1
                  cases l0 with
                  | nil => simp at hl0
                  | cons a l0 => simp only [List.map_cons, List.cons.injEq, Prod.mk.injEq] at hl0; rw [← hl0.1.2]; rfl
            simp only [entsOk, g5, Bool.and_true, Bool.or_eq_true]
            exact hx
theorem W_drawF (hT : TabOK P T) {F : FT} (hF : ∀ f a S v S', F f a S = some (v, S') → CallIs P f a S [(v, some S')]) {id : Nat} {ops : Array Oper} (hst : drawStatF n ops = true) (h : VL (CallF F) P T n ops ops.toList τ S (KN Q ds)) : W P n ro (.region id ops true) τ ds S Q := by
  unfold drawStatF at hst
  simp only [Bool.and_eq_true] at hst
  obtain ⟨⟨⟨⟨s1, s2⟩, s3⟩, s4⟩, s5⟩ := hst
  obtain ⟨R, τ', S', g3, g4, g5, g6⟩ := canon_fn (hs := ops.toList.map fun _ => none) (getD_none _) s5 ops.toList 0 h rfl
  refine ⟨.normal, τ', ds, S', ?_, g6⟩
  have hchk : drawChk (GF F) P T (ops.toList.map fun _ => none) ops (tl n τ) R S' = true := by
    unfold drawChk
    rw [s1, g5, List.isEmpty_iff.1 s4]
    have hlen : topOf ops ≤ (tl n τ).length := by rw [tl_length]; exact Nat.le_of_ble_eq_true s2
    simp only [hlen, decide_true, Bool.true_and, List.all_nil, Bool.and_true, List.all_eq_true]
    intro q hq
    have hqe : q.2 = [] := List.isEmpty_iff.1 (List.all_eq_true.1 s3 q hq)
    have hqi : ∃ o, ops[q.1]? = some o := by
      unfold again at hq
      rw [List.mem_filterMap] at hq
      obtain ⟨i, hi, h2⟩ := hq
      split at h2
      · rename_i o ho
        split at h2
        · cases h2
        · cases h2; exact ⟨o, ho⟩
      · cases h2
    obtain ⟨o, ho⟩ := hqi
    have hqs : q.1 < R.length := by
      rw [g4]
      rcases Nat.lt_or_ge q.1 ops.size with h | h
      · simpa using h
      · rw [Array.getElem?_eq_none h] at ho; cases ho
    rw [ho, List.getElem?_eq_getElem hqs, hqe]
    simp
  have hdraw : drawA (GF F) P T ops (tl n τ) S = some [(tl n τ', S')] := by
    unfold drawA
    rw [pre_none _ _ s5]
    simp only [g3, hchk, if_true]
  intro w0 E w a ro' m R' hro hS ht hd hQ
  refine drawA_ok hT (GF_ok hF) hdraw hS ht ?_
  intro r hr E' a' w' hE hS' ht' hd' hk hz
  rw [List.mem_singleton] at hr
  subst hr
  exact hQ E' a' w' hE hS' ht' (by rw [hd']; exact hd.mono hE) hk hz

/-! ## calls that leave the store as it was: what is read between them is the same in every order -/
noncomputable def drawStatS (n : Nat) (ops : Array Oper) : Bool :=
  statOk ops && Nat.ble (topOf ops) n && (news ops).isEmpty && ops.toList.all (fun o => (allocOf o.op).isNone) && ops.toList.all (fun o => isCallV o.op || !eff o.op)
theorem stepD_same {F : FT} (hFS : ∀ f a S v S', F f a S = some (v, S') → S' = S) {hs : List (Option Nat)} (hhs : ∀ i, hs.getD i none = none) {i : Nat} {ts : List Value} {S : St} {o : Oper} (ho : (isCallV o.op || !eff o.op) = true) {v : Value} {s : Option St} (h : stepD (GF F) P T hs i ts S o = some [(v, s)]) : s.getD S = S := by
  unfold stepD at h
  rw [hhs i] at h
  simp only at h
  unfold stepOp at h
  split at h
  · split at h
    · simp only [GF, Option.map_eq_some_iff] at h
      obtain ⟨⟨v', S'⟩, h1, h2⟩ := h
      simp only [List.cons.injEq, Prod.mk.injEq, and_true] at h2
      rw [← h2.2]
      exact hFS _ _ _ _ _ h1
    · unfold yieldA at h
      split at h
      · split at h
        · simp only [GF, bindL] at h; cases h
        · cases h
      · cases h
    · cases h
  · rename_i hop
    have he : eff o.op = false := by
      cases hh : eff o.op with
      | false => rfl
      | true =>
        rw [hh, Bool.not_true, Bool.or_false] at ho
        exfalso
        generalize o.op = op at ho hh
        cases op <;> simp [isCallV] at ho
        rename_i c
        obtain ⟨cal, args, at'⟩ := c
        cases cal <;> simp [eff] at ho hh
    rw [if_neg (by rw [he]; simp), Option.map_eq_some_iff] at h
    obtain ⟨l0, _, hl0⟩ := h
    cases l0 with
    | nil => simp at hl0
    | cons a l0 => simp only [List.map_cons, List.cons.injEq, Prod.mk.injEq] at hl0; rw [← hl0.1.2]; rfl
theorem W_drawS (hT : TabOK P T) {F : FT} (hF : ∀ f a S v S', F f a S = some (v, S') → CallIs P f a S [(v, some S')]) (hFS : ∀ f a S v S', F f a S = some (v, S') → S' = S) {id : Nat} {ops : Array Oper} (hst : drawStatS n ops = true) (h : VL (CallF F) P T n ops ops.toList τ S (KN Q ds)) : W P n ro (.region id ops true) τ ds S Q := by
  unfold drawStatS at hst
  simp only [Bool.and_eq_true] at hst
  obtain ⟨⟨⟨⟨s1, s2⟩, s4⟩, s5⟩, s6⟩ := hst
  obtain ⟨R, τ', S', g3, g4, g5, g6⟩ := canon_fn (hs := ops.toList.map fun _ => none) (getD_none _) s5 ops.toList 0 h rfl
  refine ⟨.normal, τ', ds, S', ?_, g6⟩
  obtain ⟨c1, c2, c3, c4⟩ := canon_spec g3
  have hSat : ∀ k, SAt R S' k = S := by
    have hin : ∀ k, k ≤ ops.toList.length → SAt R S' k = S := by
      intro k
      induction k with
      | zero => intro _; exact c3
      | succ k ih =>
        intro hk
        have hk' : k < ops.toList.length := by omega
        obtain ⟨e, e1, e2, e3, e4, e5⟩ := c4 k ops.toList[k] (List.getElem?_eq_getElem hk')
        have hs := ih (by omega)
        rw [SAt_of e1] at hs
        rw [e5]
        cases hw : Region.wanted ops.toList[k] (yieldedA ops e.ts) with
        | true => rw [stepD_same hFS (getD_none _) (List.all_eq_true.1 s6 _ (List.getElem_mem hk')) (e2 hw), hs]
        | false => rw [(e3 hw).2]; exact hs
    intro k
    rcases Nat.lt_or_ge k R.length with hk | hk
    · exact hin k (by omega)
    · have h1 : SAt R S' k = S' := by unfold SAt; rw [List.getElem?_eq_none hk]
      have h2 : SAt R S' R.length = S' := by unfold SAt; rw [List.getElem?_eq_none (Nat.le_refl _)]
      rw [h1, ← h2]
      exact hin _ (by omega)
  have hchk : DrawP (GF F) P T (ops.toList.map fun _ => none) ops (tl n τ) R S' := by
    refine ⟨s1, by rw [tl_length]; exact Nat.le_of_ble_eq_true s2, g5, ?_, by rw [List.isEmpty_iff.1 s4]; rfl⟩
    intro i ks hin o e ho he hw k _
    have hx : isX ops i = false := by
      unfold again at hin
      rw [List.mem_filterMap] at hin
      obtain ⟨j, hj, h2⟩ := hin
      split at h2
      · rename_i o' ho'
        split at h2
        · cases h2
        · rename_i hn
          cases h2
          unfold isX
          rw [ho']
          simp only [Bool.or_eq_true, not_or, Bool.not_eq_true] at hn
          exact hn.1.1
      · cases h2
    obtain ⟨e', e1, e2, _⟩ := c4 i o (by simpa using ho)
    rw [he] at e1
    cases e1
    have hes := entsOk_ok g5 he (by rw [Nat.zero_add]; exact hx)
    have := e2 hw
    rw [hes, Nat.zero_add] at this
    rw [hSat k, ← hSat i, SAt_of he]
    exact this
  intro w0 E w a ro' m R' hro hS ht hd hQ
  refine drawP_ok hT (GF_ok hF) (pre_none _ _ s5) g3 hchk hS ht ?_
  intro E' a' w' hE hS' ht' hd' hk hz
  exact hQ E' a' w' hE hS' ht' (by rw [hd']; exact hd.mono hE) hk hz
end
end Go.Ax
end
/- part Zd -/
section
namespace Go.Proofs.Sz
open Go Go.Ax Go.Proofs Go.RowKit
open Classical in
/-- calls that give a number and leave the store as it was -/
noncomputable def Fint : FT := fun f a S => if h : ∃ x : Int, CallIs PP f a S [(.int .i64 x, some S)] then some (.int .i64 (Classical.choose h), S) else none
theorem Fint_ok (f : FuncId) (a : List Value) (S : St) (v : Value) (S' : St) (h : Fint f a S = some (v, S')) : CallIs PP f a S [(v, some S')] := by
  unfold Fint at h
  split at h
  · rename_i hx
    cases h
    exact Classical.choose_spec hx
  · cases h
theorem Fint_some {f : FuncId} {a : List Value} {S : St} (h : CallW PP f a S (fun v S' => (∃ r, v = .int .i64 r) ∧ S' = S)) : ∃ y, Fint f a S = some (.int .i64 y, S) := by
  obtain ⟨v, S', h1, ⟨r, rfl⟩, rfl⟩ := h
  unfold Fint
  rw [dif_pos ⟨r, h1⟩]
  exact ⟨_, rfl⟩
theorem Fint_same (f : FuncId) (a : List Value) (S : St) (v : Value) (S' : St) (h : Fint f a S = some (v, S')) : S' = S := by
  unfold Fint at h
  split at h
  · cases h; rfl
  · cases h
theorem und50 : TT.und 50 = some (.func #[3] #[3] false) := by kernel_rfl
theorem fn52 : TT.fn 52 = some Tryz.f52 := by kernel_rfl
/-- sorted's closure: some number -/
theorem by_call {S : St} {bf : Nat} {g : FuncId} {cs : List Value} (hf : S.get bf = some (.cells [.func (.func g) #[] cs.toArray] 50 0)) {x y : Int}
    (hx : CallW PP g ([.int .i64 x] ++ cs) S (fun v S' => (∃ r, v = .int .i64 r) ∧ S' = S)) (hy : CallW PP g ([.int .i64 y] ++ cs) S (fun v S' => (∃ r, v = .int .i64 r) ∧ S' = S)) :
    CallW PP 52 [.int .i64 x, .int .i64 y, .pointer (some ⟨bf, 0, none⟩)] S (fun v S' => (∃ r, v = .int .i64 r) ∧ S' = S) := by
  have r1 := load_one (o := 0) und50 info50 rfl hf
  simp only [List.getElem?_cons_zero] at r1
  obtain ⟨a, ha⟩ := Fint_some hx
  obtain ⟨b, hb⟩ := Fint_some hy
  obtain ⟨c, hc⟩ := Fint_some (S := S) ((cmp_call S a b).mono fun v S' h => ⟨⟨_, h.1⟩, h.2⟩)
  refine CallW_of hTT fn52 rfl (by simp [Tryz.f52]) ?_
  unfold Tryz.f52
  with_reducible refine W_seq ?_
  with_reducible refine W_regionV hTT ?_
  simp only [und3, und4, und22, und26, und29, und45, und64, info3, info4, info22, info26, info29, info45, info64, info50, und50, aggT, J0, J1, J2, J3, J4, J5, J6, J7, J8, J9, J10, J11, J12, gv, dstAt, J13, J14, J15, J16, J17, J18, J19, J20, J21, J22, J23, J24, J25, J26, J27, J28, J29, J30, J31, J32, J33, J34, J35, J36, J37, J38, J39, J40, J41, J42, J43, J44, J45, J46, J47, J48, J49, J50, J51, J52, J53, J54, J55, J56, J57, J58, J59, aop, J60, J61, J62, evalsA, partsA, evalO, J63, J64, J65, J66, J67, J68, J69, J70, J71, updO, J72, ofArgs, J73, binV, intBin, J74, unV, J75, J76, mmV, builtinA, J77, J78, J79, J80, J81, J82, J83, J84, J85, J86, J87, J88, J89, Nat.reduceLT, Nat.reduceEqDiff, Nat.reduceAdd, Nat.reduceSub, Nat.reduceMul, reduceIte, J90, J91, J92, reduceCtorEq, J93, J94, J95, J96, J97, J98, J99, J100]
  with_reducible refine W_seq ?_
  with_reducible refine W_drawS hTT Fint_ok Fint_same (by kernel_rfl) ?_
  simp only [und3, und4, und22, und26, und29, und45, und64, info3, info4, info22, info26, info29, info45, info64, info50, und50, aggT, J0, J1, J2, J3, J4, J5, J6, J7, J8, J9, J10, J11, J12, gv, dstAt, J13, J14, J15, J16, J17, J18, J19, J20, J21, J22, J23, J24, J25, J26, J27, J28, J29, J30, J31, J32, J33, J34, J35, J36, J37, J38, J39, J40, J41, J42, J43, J44, J45, J46, J47, J48, J49, J50, J51, J52, J53, J54, J55, J56, J57, J58, J59, aop, J60, J61, J62, evalsA, partsA, evalO, J63, J64, J65, J66, J67, J68, J69, J70, J71, updO, J72, ofArgs, J73, binV, intBin, J74, unV, J75, J76, mmV, builtinA, J77, J78, J79, J80, J81, J82, J83, J84, J85, J86, J87, J88, J89, Nat.reduceLT, Nat.reduceEqDiff, Nat.reduceAdd, Nat.reduceSub, Nat.reduceMul, reduceIte, J90, J91, J92, reduceCtorEq, J93, J94, J95, J96, J97, J98, J99, J100, r1]
  refine VCallF_intro ha ?_
  simp only [und3, und4, und22, und26, und29, und45, und64, info3, info4, info22, info26, info29, info45, info64, info50, und50, aggT, J0, J1, J2, J3, J4, J5, J6, J7, J8, J9, J10, J11, J12, gv, dstAt, J13, J14, J15, J16, J17, J18, J19, J20, J21, J22, J23, J24, J25, J26, J27, J28, J29, J30, J31, J32, J33, J34, J35, J36, J37, J38, J39, J40, J41, J42, J43, J44, J45, J46, J47, J48, J49, J50, J51, J52, J53, J54, J55, J56, J57, J58, J59, aop, J60, J61, J62, evalsA, partsA, evalO, J63, J64, J65, J66, J67, J68, J69, J70, J71, updO, J72, ofArgs, J73, binV, intBin, J74, unV, J75, J76, mmV, builtinA, J77, J78, J79, J80, J81, J82, J83, J84, J85, J86, J87, J88, J89, Nat.reduceLT, Nat.reduceEqDiff, Nat.reduceAdd, Nat.reduceSub, Nat.reduceMul, reduceIte, J90, J91, J92, reduceCtorEq, J93, J94, J95, J96, J97, J98, J99, J100, r1]
  refine VCallF_intro hb ?_
  simp only [und3, und4, und22, und26, und29, und45, und64, info3, info4, info22, info26, info29, info45, info64, info50, und50, aggT, J0, J1, J2, J3, J4, J5, J6, J7, J8, J9, J10, J11, J12, gv, dstAt, J13, J14, J15, J16, J17, J18, J19, J20, J21, J22, J23, J24, J25, J26, J27, J28, J29, J30, J31, J32, J33, J34, J35, J36, J37, J38, J39, J40, J41, J42, J43, J44, J45, J46, J47, J48, J49, J50, J51, J52, J53, J54, J55, J56, J57, J58, J59, aop, J60, J61, J62, evalsA, partsA, evalO, J63, J64, J65, J66, J67, J68, J69, J70, J71, updO, J72, ofArgs, J73, binV, intBin, J74, unV, J75, J76, mmV, builtinA, J77, J78, J79, J80, J81, J82, J83, J84, J85, J86, J87, J88, J89, Nat.reduceLT, Nat.reduceEqDiff, Nat.reduceAdd, Nat.reduceSub, Nat.reduceMul, reduceIte, J90, J91, J92, reduceCtorEq, J93, J94, J95, J96, J97, J98, J99, J100, r1]
  refine VCallF_intro hc ?_
  (try simp only [und3, und4, und22, und26, und29, und45, und64, info3, info4, info22, info26, info29, info45, info64, info50, und50, aggT, J0, J1, J2, J3, J4, J5, J6, J7, J8, J9, J10, J11, J12, gv, dstAt, J13, J14, J15, J16, J17, J18, J19, J20, J21, J22, J23, J24, J25, J26, J27, J28, J29, J30, J31, J32, J33, J34, J35, J36, J37, J38, J39, J40, J41, J42, J43, J44, J45, J46, J47, J48, J49, J50, J51, J52, J53, J54, J55, J56, J57, J58, J59, aop, J60, J61, J62, evalsA, partsA, evalO, J63, J64, J65, J66, J67, J68, J69, J70, J71, updO, J72, ofArgs, J73, binV, intBin, J74, unV, J75, J76, mmV, builtinA, J77, J78, J79, J80, J81, J82, J83, J84, J85, J86, J87, J88, J89, Nat.reduceLT, Nat.reduceEqDiff, Nat.reduceAdd, Nat.reduceSub, Nat.reduceMul, reduceIte, J90, J91, J92, reduceCtorEq, J93, J94, J95, J96, J97, J98, J99, J100]); repeat (first | with_reducible refine W_seq ?_ | with_reducible refine W_block ?_ | with_reducible refine W_scope ?_ | ((first | with_reducible refine W_regionV hTT ?_ | with_reducible refine W_condV ?_ | with_reducible refine W_ret ?_ | with_reducible refine W_exit ?_ | with_reducible refine W_skip ?_ | with_reducible refine W_label ?_ | with_reducible refine W_drawV hTT (by kernel_rfl) ?_); try simp only [und3, und4, und22, und26, und29, und45, und64, info3, info4, info22, info26, info29, info45, info64, info50, und50, aggT, J0, J1, J2, J3, J4, J5, J6, J7, J8, J9, J10, J11, J12, gv, dstAt, J13, J14, J15, J16, J17, J18, J19, J20, J21, J22, J23, J24, J25, J26, J27, J28, J29, J30, J31, J32, J33, J34, J35, J36, J37, J38, J39, J40, J41, J42, J43, J44, J45, J46, J47, J48, J49, J50, J51, J52, J53, J54, J55, J56, J57, J58, J59, aop, J60, J61, J62, evalsA, partsA, evalO, J63, J64, J65, J66, J67, J68, J69, J70, J71, updO, J72, ofArgs, J73, binV, intBin, J74, unV, J75, J76, mmV, builtinA, J77, J78, J79, J80, J81, J82, J83, J84, J85, J86, J87, J88, J89, Nat.reduceLT, Nat.reduceEqDiff, Nat.reduceAdd, Nat.reduceSub, Nat.reduceMul, reduceIte, J90, J91, J92, reduceCtorEq, J93, J94, J95, J96, J97, J98, J99, J100]))
  exact ⟨_, rfl⟩
end Go.Proofs.Sz
end
/- part Zm -/
section
namespace Go.Proofs.Sz
open Go Go.Ax Go.Proofs Go.RowKit
theorem fn6 : TT.fn 6 = some Tryz.f6 := by kernel_rfl
/-- mod -/
theorem mod_call (S : St) (x : Int) {n : Nat} (h1 : 0 < n) (h2 : n < 1000) :
    CallW PP 6 [.int .i64 x, .int .i64 n] S (fun v S' => (∃ r : Nat, r < n ∧ v = .int .i64 r) ∧ S' = S) := by
  refine CallW_of hTT fn6 rfl (by simp [Tryz.f6]) ?_
  unfold Tryz.f6
  have hu : IntKind.u64.wrap (n : Int) = n := IntWalk.u64_in _ (by omega)
  have hz : ((n : Int) = 0) = False := by simp; omega
  have hx0 : 0 ≤ IntKind.u64.wrap x := by rw [IntKind.wrap_u64]; omega
  repeat (first | with_reducible refine W_seq ?_ | with_reducible refine W_block ?_ | with_reducible refine W_scope ?_ | ((first | with_reducible refine W_regionV hTT ?_ | with_reducible refine W_condV ?_ | with_reducible refine W_ret ?_ | with_reducible refine W_exit ?_ | with_reducible refine W_skip ?_ | with_reducible refine W_label ?_ | with_reducible refine W_drawV hTT (by kernel_rfl) ?_); try simp only [und3, und4, und22, und26, und29, und45, und64, info3, info4, info22, info26, info29, info45, info64, info50, aggT, J0, J1, J2, J3, J4, J5, J6, J7, J8, J9, J10, J11, J12, gv, dstAt, J13, J14, J15, J16, J17, J18, J19, J20, J21, J22, J23, J24, J25, J26, J27, J28, J29, J30, J31, J32, J33, J34, J35, J36, J37, J38, J39, J40, J41, J42, J43, J44, J45, J46, J47, J48, J49, J50, J51, J52, J53, J54, J55, J56, J57, J58, J59, aop, J60, J61, J62, evalsA, partsA, evalO, J63, J64, J65, J66, J67, J68, J69, J70, J71, updO, J72, ofArgs, J73, binV, intBin, J74, unV, J75, J76, mmV, builtinA, J77, J78, J79, J80, J81, J82, J83, J84, J85, J86, J87, J88, J89, Nat.reduceLT, Nat.reduceEqDiff, Nat.reduceAdd, Nat.reduceSub, Nat.reduceMul, reduceIte, J90, J91, J92, reduceCtorEq, J93, J94, J95, J96, J97, J98, J99, J100, convA, hu, hz, if_false]))
  have h3 := Int.tmod_lt_of_pos (IntKind.u64.wrap x) (b := n) (by omega)
  have h4 : 0 ≤ (IntKind.u64.wrap x).tmod n := Int.tmod_nonneg _ hx0
  refine ⟨((IntKind.u64.wrap x).tmod n).toNat, by omega, ?_⟩
  rw [wrap_id (by omega) (by omega)]
  congr 1
  omega
theorem fn24 : TT.fn 24 = some Tryz.f24 := by kernel_rfl
/-- the reference's total: no sum wraps -/
theorem total_call {S : St} {va : Value} {xs : List Int} (ha : Sl S 1 va (iv xs) xs.length) (hl : xs.length < 1000) (hb : ∀ x ∈ xs, 0 ≤ x ∧ x < 1000) :
    CallW PP 24 [va] S (fun v S' => v = .int .i64 xs.sum ∧ S' = S) := by
  have hla := ha.len (T := TT) und26
  refine CallW_of hTT fn24 rfl (by simp [Tryz.f24]) ?_
  unfold Tryz.f24
  repeat (first | with_reducible refine W_seq ?_ | with_reducible refine W_block ?_ | with_reducible refine W_scope ?_ | ((first | with_reducible refine W_regionV hTT ?_ | with_reducible refine W_condV ?_ | with_reducible refine W_ret ?_ | with_reducible refine W_exit ?_ | with_reducible refine W_skip ?_ | with_reducible refine W_label ?_ | with_reducible refine W_drawV hTT (by kernel_rfl) ?_); try simp only [und3, und4, und22, und26, und29, und45, und64, info3, info4, info22, info26, info29, info45, info64, info50, aggT, J0, J1, J2, J3, J4, J5, J6, J7, J8, J9, J10, J11, J12, gv, dstAt, J13, J14, J15, J16, J17, J18, J19, J20, J21, J22, J23, J24, J25, J26, J27, J28, J29, J30, J31, J32, J33, J34, J35, J36, J37, J38, J39, J40, J41, J42, J43, J44, J45, J46, J47, J48, J49, J50, J51, J52, J53, J54, J55, J56, J57, J58, J59, aop, J60, J61, J62, evalsA, partsA, evalO, J63, J64, J65, J66, J67, J68, J69, J70, J71, updO, J72, ofArgs, J73, binV, intBin, J74, unV, J75, J76, mmV, builtinA, J77, J78, J79, J80, J81, J82, J83, J84, J85, J86, J87, J88, J89, Nat.reduceLT, Nat.reduceEqDiff, Nat.reduceAdd, Nat.reduceSub, Nat.reduceMul, reduceIte, J90, J91, J92, reduceCtorEq, J93, J94, J95, J96, J97, J98, J99, J100]))
  refine W_loopI (fun m τ ds S' => S' = S ∧ ds = [] ∧ ∃ k : Nat, m = xs.length - k ∧ k ≤ xs.length ∧ τ 0 = va ∧ τ 3 = .int .i64 (xs.take k).sum ∧ τ 4 = .int .i64 k ∧ 0 ≤ (xs.take k).sum ∧ (xs.take k).sum ≤ 1000 * k) xs.length ?_ ?_
  · refine ⟨rfl, rfl, 0, by simp, by simp, ?_, ?_, ?_, by simp⟩ <;> first | rfl | simp only [und3, und4, und22, und26, und29, und45, und64, info3, info4, info22, info26, info29, info45, info64, info50, aggT, J0, J1, J2, J3, J4, J5, J6, J7, J8, J9, J10, J11, J12, gv, dstAt, J13, J14, J15, J16, J17, J18, J19, J20, J21, J22, J23, J24, J25, J26, J27, J28, J29, J30, J31, J32, J33, J34, J35, J36, J37, J38, J39, J40, J41, J42, J43, J44, J45, J46, J47, J48, J49, J50, J51, J52, J53, J54, J55, J56, J57, J58, J59, aop, J60, J61, J62, evalsA, partsA, evalO, J63, J64, J65, J66, J67, J68, J69, J70, J71, updO, J72, ofArgs, J73, binV, intBin, J74, unV, J75, J76, mmV, builtinA, J77, J78, J79, J80, J81, J82, J83, J84, J85, J86, J87, J88, J89, Nat.reduceLT, Nat.reduceEqDiff, Nat.reduceAdd, Nat.reduceSub, Nat.reduceMul, reduceIte, J90, J91, J92, reduceCtorEq, J93, J94, J95, J96, J97, J98, J99, J100]
  · rintro m τ ds S' ⟨rfl, rfl, k, rfl, hk, t0, t3, t4, hs0, hs1⟩
    by_cases hlt : k < xs.length
    · have e1 : decide ((k : Int) < xs.length) = true := by simpa using hlt
      obtain ⟨q, p1, p2, _⟩ := ha.at1 (T := TT) (k := .i64) und26 info3 und3 rfl rfl hlt
      rw [iv_get, List.getElem?_eq_getElem hlt] at p2
      have hx := hb xs[k] (List.getElem_mem hlt)
      have hw := wrap_succ (k := k) (by omega)
      have hs : (xs.take (k + 1)).sum = (xs.take k).sum + xs[k] := by rw [List.take_succ_eq_append_getElem hlt]; simp only [List.sum_append, List.sum_cons, List.sum_nil, Int.add_zero]
      have hw2 : IntKind.i64.wrap ((xs.take k).sum + xs[k]) = (xs.take (k + 1)).sum := by rw [hs]; exact wrap_id (by omega) (by omega)
      repeat (first | with_reducible refine W_seq ?_ | with_reducible refine W_block ?_ | with_reducible refine W_scope ?_ | ((first | with_reducible refine W_regionV hTT ?_ | with_reducible refine W_condV ?_ | with_reducible refine W_ret ?_ | with_reducible refine W_exit ?_ | with_reducible refine W_skip ?_ | with_reducible refine W_label ?_ | with_reducible refine W_drawV hTT (by kernel_rfl) ?_); try simp only [und3, und4, und22, und26, und29, und45, und64, info3, info4, info22, info26, info29, info45, info64, info50, aggT, J0, J1, J2, J3, J4, J5, J6, J7, J8, J9, J10, J11, J12, gv, dstAt, J13, J14, J15, J16, J17, J18, J19, J20, J21, J22, J23, J24, J25, J26, J27, J28, J29, J30, J31, J32, J33, J34, J35, J36, J37, J38, J39, J40, J41, J42, J43, J44, J45, J46, J47, J48, J49, J50, J51, J52, J53, J54, J55, J56, J57, J58, J59, aop, J60, J61, J62, evalsA, partsA, evalO, J63, J64, J65, J66, J67, J68, J69, J70, J71, updO, J72, ofArgs, J73, binV, intBin, J74, unV, J75, J76, mmV, builtinA, J77, J78, J79, J80, J81, J82, J83, J84, J85, J86, J87, J88, J89, Nat.reduceLT, Nat.reduceEqDiff, Nat.reduceAdd, Nat.reduceSub, Nat.reduceMul, reduceIte, J90, J91, J92, reduceCtorEq, J93, J94, J95, J96, J97, J98, J99, J100, hla, t0, t3, t4, e1, p1, p2, hw, hw2]))
      refine LoopQ_intro (xs.length - (k + 1)) (by omega) ⟨rfl, rfl, k + 1, rfl, by omega, by simp only [und3, und4, und22, und26, und29, und45, und64, info3, info4, info22, info26, info29, info45, info64, info50, aggT, J0, J1, J2, J3, J4, J5, J6, J7, J8, J9, J10, J11, J12, gv, dstAt, J13, J14, J15, J16, J17, J18, J19, J20, J21, J22, J23, J24, J25, J26, J27, J28, J29, J30, J31, J32, J33, J34, J35, J36, J37, J38, J39, J40, J41, J42, J43, J44, J45, J46, J47, J48, J49, J50, J51, J52, J53, J54, J55, J56, J57, J58, J59, aop, J60, J61, J62, evalsA, partsA, evalO, J63, J64, J65, J66, J67, J68, J69, J70, J71, updO, J72, ofArgs, J73, binV, intBin, J74, unV, J75, J76, mmV, builtinA, J77, J78, J79, J80, J81, J82, J83, J84, J85, J86, J87, J88, J89, Nat.reduceLT, Nat.reduceEqDiff, Nat.reduceAdd, Nat.reduceSub, Nat.reduceMul, reduceIte, J90, J91, J92, reduceCtorEq, J93, J94, J95, J96, J97, J98, J99, J100, t0], by simp only [und3, und4, und22, und26, und29, und45, und64, info3, info4, info22, info26, info29, info45, info64, info50, aggT, J0, J1, J2, J3, J4, J5, J6, J7, J8, J9, J10, J11, J12, gv, dstAt, J13, J14, J15, J16, J17, J18, J19, J20, J21, J22, J23, J24, J25, J26, J27, J28, J29, J30, J31, J32, J33, J34, J35, J36, J37, J38, J39, J40, J41, J42, J43, J44, J45, J46, J47, J48, J49, J50, J51, J52, J53, J54, J55, J56, J57, J58, J59, aop, J60, J61, J62, evalsA, partsA, evalO, J63, J64, J65, J66, J67, J68, J69, J70, J71, updO, J72, ofArgs, J73, binV, intBin, J74, unV, J75, J76, mmV, builtinA, J77, J78, J79, J80, J81, J82, J83, J84, J85, J86, J87, J88, J89, Nat.reduceLT, Nat.reduceEqDiff, Nat.reduceAdd, Nat.reduceSub, Nat.reduceMul, reduceIte, J90, J91, J92, reduceCtorEq, J93, J94, J95, J96, J97, J98, J99, J100, t3, hw2], by simp only [und3, und4, und22, und26, und29, und45, und64, info3, info4, info22, info26, info29, info45, info64, info50, aggT, J0, J1, J2, J3, J4, J5, J6, J7, J8, J9, J10, J11, J12, gv, dstAt, J13, J14, J15, J16, J17, J18, J19, J20, J21, J22, J23, J24, J25, J26, J27, J28, J29, J30, J31, J32, J33, J34, J35, J36, J37, J38, J39, J40, J41, J42, J43, J44, J45, J46, J47, J48, J49, J50, J51, J52, J53, J54, J55, J56, J57, J58, J59, aop, J60, J61, J62, evalsA, partsA, evalO, J63, J64, J65, J66, J67, J68, J69, J70, J71, updO, J72, ofArgs, J73, binV, intBin, J74, unV, J75, J76, mmV, builtinA, J77, J78, J79, J80, J81, J82, J83, J84, J85, J86, J87, J88, J89, Nat.reduceLT, Nat.reduceEqDiff, Nat.reduceAdd, Nat.reduceSub, Nat.reduceMul, reduceIte, J90, J91, J92, reduceCtorEq, J93, J94, J95, J96, J97, J98, J99, J100, t4], by omega, ?_⟩
      rw [hs]; omega
    · have e1 : decide ((k : Int) < xs.length) = false := by simpa using hlt
      have hkk : k = xs.length := by omega
      subst hkk
      rw [List.take_length] at t3
      repeat (first | with_reducible refine W_seq ?_ | with_reducible refine W_block ?_ | with_reducible refine W_scope ?_ | ((first | with_reducible refine W_regionV hTT ?_ | with_reducible refine W_condV ?_ | with_reducible refine W_ret ?_ | with_reducible refine W_exit ?_ | with_reducible refine W_skip ?_ | with_reducible refine W_label ?_ | with_reducible refine W_drawV hTT (by kernel_rfl) ?_); try simp only [und3, und4, und22, und26, und29, und45, und64, info3, info4, info22, info26, info29, info45, info64, info50, aggT, J0, J1, J2, J3, J4, J5, J6, J7, J8, J9, J10, J11, J12, gv, dstAt, J13, J14, J15, J16, J17, J18, J19, J20, J21, J22, J23, J24, J25, J26, J27, J28, J29, J30, J31, J32, J33, J34, J35, J36, J37, J38, J39, J40, J41, J42, J43, J44, J45, J46, J47, J48, J49, J50, J51, J52, J53, J54, J55, J56, J57, J58, J59, aop, J60, J61, J62, evalsA, partsA, evalO, J63, J64, J65, J66, J67, J68, J69, J70, J71, updO, J72, ofArgs, J73, binV, intBin, J74, unV, J75, J76, mmV, builtinA, J77, J78, J79, J80, J81, J82, J83, J84, J85, J86, J87, J88, J89, Nat.reduceLT, Nat.reduceEqDiff, Nat.reduceAdd, Nat.reduceSub, Nat.reduceMul, reduceIte, J90, J91, J92, reduceCtorEq, J93, J94, J95, J96, J97, J98, J99, J100, hla, t0, t3, t4, e1]))
theorem fn26 : TT.fn 26 = some Tryz.f26 := by kernel_rfl
/-- sum: a number -/
theorem sum_call {S : St} {va : Value} {xs : List Int} (ha : Sl S 1 va (iv xs) xs.length) (hl : xs.length < 1000) :
    CallW PP 26 [va] S (fun v S' => (∃ r, v = .int .i64 r) ∧ S' = S) := by
  have hla := ha.len (T := TT) und26
  refine CallW_of hTT fn26 rfl (by simp [Tryz.f26]) ?_
  unfold Tryz.f26
  repeat (first | with_reducible refine W_seq ?_ | with_reducible refine W_block ?_ | with_reducible refine W_scope ?_ | ((first | with_reducible refine W_regionV hTT ?_ | with_reducible refine W_condV ?_ | with_reducible refine W_ret ?_ | with_reducible refine W_exit ?_ | with_reducible refine W_skip ?_ | with_reducible refine W_label ?_ | with_reducible refine W_drawV hTT (by kernel_rfl) ?_); try simp only [und3, und4, und22, und26, und29, und45, und64, info3, info4, info22, info26, info29, info45, info64, info50, aggT, J0, J1, J2, J3, J4, J5, J6, J7, J8, J9, J10, J11, J12, gv, dstAt, J13, J14, J15, J16, J17, J18, J19, J20, J21, J22, J23, J24, J25, J26, J27, J28, J29, J30, J31, J32, J33, J34, J35, J36, J37, J38, J39, J40, J41, J42, J43, J44, J45, J46, J47, J48, J49, J50, J51, J52, J53, J54, J55, J56, J57, J58, J59, aop, J60, J61, J62, evalsA, partsA, evalO, J63, J64, J65, J66, J67, J68, J69, J70, J71, updO, J72, ofArgs, J73, binV, intBin, J74, unV, J75, J76, mmV, builtinA, J77, J78, J79, J80, J81, J82, J83, J84, J85, J86, J87, J88, J89, Nat.reduceLT, Nat.reduceEqDiff, Nat.reduceAdd, Nat.reduceSub, Nat.reduceMul, reduceIte, J90, J91, J92, reduceCtorEq, J93, J94, J95, J96, J97, J98, J99, J100, hla]))
  refine W_loopI (fun m τ ds S' => S' = S ∧ ds = [] ∧ ∃ (k : Nat) (r : Int), m = xs.length - k ∧ k ≤ xs.length ∧ τ 6 = va ∧ τ 3 = .int .i64 r ∧ τ 7 = .int .i64 xs.length ∧ τ 8 = .int .i64 k) xs.length ?_ ?_
  · refine ⟨rfl, rfl, 0, 0, by simp, by simp, ?_, ?_, ?_, ?_⟩ <;> first | rfl | simp only [und3, und4, und22, und26, und29, und45, und64, info3, info4, info22, info26, info29, info45, info64, info50, aggT, J0, J1, J2, J3, J4, J5, J6, J7, J8, J9, J10, J11, J12, gv, dstAt, J13, J14, J15, J16, J17, J18, J19, J20, J21, J22, J23, J24, J25, J26, J27, J28, J29, J30, J31, J32, J33, J34, J35, J36, J37, J38, J39, J40, J41, J42, J43, J44, J45, J46, J47, J48, J49, J50, J51, J52, J53, J54, J55, J56, J57, J58, J59, aop, J60, J61, J62, evalsA, partsA, evalO, J63, J64, J65, J66, J67, J68, J69, J70, J71, updO, J72, ofArgs, J73, binV, intBin, J74, unV, J75, J76, mmV, builtinA, J77, J78, J79, J80, J81, J82, J83, J84, J85, J86, J87, J88, J89, Nat.reduceLT, Nat.reduceEqDiff, Nat.reduceAdd, Nat.reduceSub, Nat.reduceMul, reduceIte, J90, J91, J92, reduceCtorEq, J93, J94, J95, J96, J97, J98, J99, J100]
  · rintro m τ ds S' ⟨rfl, rfl, k, r, rfl, hk, t6, t3, t7, t8⟩
    by_cases hlt : k < xs.length
    · have e1 : decide ((k : Int) < xs.length) = true := by simpa using hlt
      obtain ⟨q, p1, p2, _⟩ := ha.at1 (T := TT) (k := .i64) und26 info3 und3 rfl rfl hlt
      rw [iv_get, List.getElem?_eq_getElem hlt] at p2
      have hw := wrap_succ (k := k) (by omega)
      repeat (first | with_reducible refine W_seq ?_ | with_reducible refine W_block ?_ | with_reducible refine W_scope ?_ | ((first | with_reducible refine W_regionV hTT ?_ | with_reducible refine W_condV ?_ | with_reducible refine W_ret ?_ | with_reducible refine W_exit ?_ | with_reducible refine W_skip ?_ | with_reducible refine W_label ?_ | with_reducible refine W_drawV hTT (by kernel_rfl) ?_); try simp only [und3, und4, und22, und26, und29, und45, und64, info3, info4, info22, info26, info29, info45, info64, info50, aggT, J0, J1, J2, J3, J4, J5, J6, J7, J8, J9, J10, J11, J12, gv, dstAt, J13, J14, J15, J16, J17, J18, J19, J20, J21, J22, J23, J24, J25, J26, J27, J28, J29, J30, J31, J32, J33, J34, J35, J36, J37, J38, J39, J40, J41, J42, J43, J44, J45, J46, J47, J48, J49, J50, J51, J52, J53, J54, J55, J56, J57, J58, J59, aop, J60, J61, J62, evalsA, partsA, evalO, J63, J64, J65, J66, J67, J68, J69, J70, J71, updO, J72, ofArgs, J73, binV, intBin, J74, unV, J75, J76, mmV, builtinA, J77, J78, J79, J80, J81, J82, J83, J84, J85, J86, J87, J88, J89, Nat.reduceLT, Nat.reduceEqDiff, Nat.reduceAdd, Nat.reduceSub, Nat.reduceMul, reduceIte, J90, J91, J92, reduceCtorEq, J93, J94, J95, J96, J97, J98, J99, J100, hla, t6, t3, t7, t8, e1, p1, p2, hw]))
      refine LoopQ_intro (xs.length - (k + 1)) (by omega) ⟨rfl, rfl, k + 1, IntKind.i64.wrap (r + xs[k]), rfl, by omega, by simp only [und3, und4, und22, und26, und29, und45, und64, info3, info4, info22, info26, info29, info45, info64, info50, aggT, J0, J1, J2, J3, J4, J5, J6, J7, J8, J9, J10, J11, J12, gv, dstAt, J13, J14, J15, J16, J17, J18, J19, J20, J21, J22, J23, J24, J25, J26, J27, J28, J29, J30, J31, J32, J33, J34, J35, J36, J37, J38, J39, J40, J41, J42, J43, J44, J45, J46, J47, J48, J49, J50, J51, J52, J53, J54, J55, J56, J57, J58, J59, aop, J60, J61, J62, evalsA, partsA, evalO, J63, J64, J65, J66, J67, J68, J69, J70, J71, updO, J72, ofArgs, J73, binV, intBin, J74, unV, J75, J76, mmV, builtinA, J77, J78, J79, J80, J81, J82, J83, J84, J85, J86, J87, J88, J89, Nat.reduceLT, Nat.reduceEqDiff, Nat.reduceAdd, Nat.reduceSub, Nat.reduceMul, reduceIte, J90, J91, J92, reduceCtorEq, J93, J94, J95, J96, J97, J98, J99, J100, t6], by simp only [und3, und4, und22, und26, und29, und45, und64, info3, info4, info22, info26, info29, info45, info64, info50, aggT, J0, J1, J2, J3, J4, J5, J6, J7, J8, J9, J10, J11, J12, gv, dstAt, J13, J14, J15, J16, J17, J18, J19, J20, J21, J22, J23, J24, J25, J26, J27, J28, J29, J30, J31, J32, J33, J34, J35, J36, J37, J38, J39, J40, J41, J42, J43, J44, J45, J46, J47, J48, J49, J50, J51, J52, J53, J54, J55, J56, J57, J58, J59, aop, J60, J61, J62, evalsA, partsA, evalO, J63, J64, J65, J66, J67, J68, J69, J70, J71, updO, J72, ofArgs, J73, binV, intBin, J74, unV, J75, J76, mmV, builtinA, J77, J78, J79, J80, J81, J82, J83, J84, J85, J86, J87, J88, J89, Nat.reduceLT, Nat.reduceEqDiff, Nat.reduceAdd, Nat.reduceSub, Nat.reduceMul, reduceIte, J90, J91, J92, reduceCtorEq, J93, J94, J95, J96, J97, J98, J99, J100, t3], by simp only [und3, und4, und22, und26, und29, und45, und64, info3, info4, info22, info26, info29, info45, info64, info50, aggT, J0, J1, J2, J3, J4, J5, J6, J7, J8, J9, J10, J11, J12, gv, dstAt, J13, J14, J15, J16, J17, J18, J19, J20, J21, J22, J23, J24, J25, J26, J27, J28, J29, J30, J31, J32, J33, J34, J35, J36, J37, J38, J39, J40, J41, J42, J43, J44, J45, J46, J47, J48, J49, J50, J51, J52, J53, J54, J55, J56, J57, J58, J59, aop, J60, J61, J62, evalsA, partsA, evalO, J63, J64, J65, J66, J67, J68, J69, J70, J71, updO, J72, ofArgs, J73, binV, intBin, J74, unV, J75, J76, mmV, builtinA, J77, J78, J79, J80, J81, J82, J83, J84, J85, J86, J87, J88, J89, Nat.reduceLT, Nat.reduceEqDiff, Nat.reduceAdd, Nat.reduceSub, Nat.reduceMul, reduceIte, J90, J91, J92, reduceCtorEq, J93, J94, J95, J96, J97, J98, J99, J100, t7], by simp only [und3, und4, und22, und26, und29, und45, und64, info3, info4, info22, info26, info29, info45, info64, info50, aggT, J0, J1, J2, J3, J4, J5, J6, J7, J8, J9, J10, J11, J12, gv, dstAt, J13, J14, J15, J16, J17, J18, J19, J20, J21, J22, J23, J24, J25, J26, J27, J28, J29, J30, J31, J32, J33, J34, J35, J36, J37, J38, J39, J40, J41, J42, J43, J44, J45, J46, J47, J48, J49, J50, J51, J52, J53, J54, J55, J56, J57, J58, J59, aop, J60, J61, J62, evalsA, partsA, evalO, J63, J64, J65, J66, J67, J68, J69, J70, J71, updO, J72, ofArgs, J73, binV, intBin, J74, unV, J75, J76, mmV, builtinA, J77, J78, J79, J80, J81, J82, J83, J84, J85, J86, J87, J88, J89, Nat.reduceLT, Nat.reduceEqDiff, Nat.reduceAdd, Nat.reduceSub, Nat.reduceMul, reduceIte, J90, J91, J92, reduceCtorEq, J93, J94, J95, J96, J97, J98, J99, J100, t8]⟩
    · have e1 : decide ((k : Int) < xs.length) = false := by simpa using hlt
      repeat (first | with_reducible refine W_seq ?_ | with_reducible refine W_block ?_ | with_reducible refine W_scope ?_ | ((first | with_reducible refine W_regionV hTT ?_ | with_reducible refine W_condV ?_ | with_reducible refine W_ret ?_ | with_reducible refine W_exit ?_ | with_reducible refine W_skip ?_ | with_reducible refine W_label ?_ | with_reducible refine W_drawV hTT (by kernel_rfl) ?_); try simp only [und3, und4, und22, und26, und29, und45, und64, info3, info4, info22, info26, info29, info45, info64, info50, aggT, J0, J1, J2, J3, J4, J5, J6, J7, J8, J9, J10, J11, J12, gv, dstAt, J13, J14, J15, J16, J17, J18, J19, J20, J21, J22, J23, J24, J25, J26, J27, J28, J29, J30, J31, J32, J33, J34, J35, J36, J37, J38, J39, J40, J41, J42, J43, J44, J45, J46, J47, J48, J49, J50, J51, J52, J53, J54, J55, J56, J57, J58, J59, aop, J60, J61, J62, evalsA, partsA, evalO, J63, J64, J65, J66, J67, J68, J69, J70, J71, updO, J72, ofArgs, J73, binV, intBin, J74, unV, J75, J76, mmV, builtinA, J77, J78, J79, J80, J81, J82, J83, J84, J85, J86, J87, J88, J89, Nat.reduceLT, Nat.reduceEqDiff, Nat.reduceAdd, Nat.reduceSub, Nat.reduceMul, reduceIte, J90, J91, J92, reduceCtorEq, J93, J94, J95, J96, J97, J98, J99, J100, hla, t6, t3, t7, t8, e1]))
      exact ⟨_, rfl⟩
end Go.Proofs.Sz
end
/- part Zt -/
section
namespace Go.Proofs.Sz
open Go Go.Ax Go.Proofs Go.RowKit
theorem fn8 : TT.fn 8 = some Tryz.f8 := by kernel_rfl
/-- table -/
theorem table_call {S : St} (hok : S.ok) {vl : Value} {rows : List (List Int)} (hx : Mat S vl rows) (hl : rows.length < 31) (hr : ∀ r ∈ rows, r.length < 31) :
    CallW PP 8 [vl] S (fun v S' => (∃ cs, Mine S' 26 1 S.n v cs rows.length) ∧ Mat S' v rows ∧ Ext S S') := by
  refine CallW_of hTT fn8 rfl (by simp [Tryz.f8]) ?_
  unfold Tryz.f8
  repeat (first | with_reducible refine W_seq ?_ | with_reducible refine W_block ?_ | with_reducible refine W_scope ?_ | ((first | with_reducible refine W_regionV hTT ?_ | with_reducible refine W_condV ?_ | with_reducible refine W_ret ?_ | with_reducible refine W_exit ?_ | with_reducible refine W_skip ?_ | with_reducible refine W_label ?_ | with_reducible refine W_drawV hTT (by kernel_rfl) ?_); try simp only [und3, und4, und22, und26, und29, und45, und64, info3, info4, info22, info26, info29, info45, info64, info50, aggT, J0, J1, J2, J3, J4, J5, J6, J7, J8, J9, J10, J11, J12, gv, dstAt, J13, J14, J15, J16, J17, J18, J19, J20, J21, J22, J23, J24, J25, J26, J27, J28, J29, J30, J31, J32, J33, J34, J35, J36, J37, J38, J39, J40, J41, J42, J43, J44, J45, J46, J47, J48, J49, J50, J51, J52, J53, J54, J55, J56, J57, J58, J59, aop, J60, J61, J62, evalsA, partsA, evalO, J63, J64, J65, J66, J67, J68, J69, J70, J71, updO, J72, ofArgs, J73, binV, intBin, J74, unV, J75, J76, mmV, builtinA, J77, J78, J79, J80, J81, J82, J83, J84, J85, J86, J87, J88, J89, Nat.reduceLT, Nat.reduceEqDiff, Nat.reduceAdd, Nat.reduceSub, Nat.reduceMul, reduceIte, J90, J91, J92, reduceCtorEq, J93, J94, J95, J96, J97, J98, J99, J100]))
  refine W_loopI (fun m τ ds S' => Ext S S' ∧ ds = [] ∧ ∃ (k : Nat) (v3 : Value) (cs : List Value), m = rows.length - k ∧ k ≤ rows.length ∧ τ 0 = vl ∧ τ 3 = v3 ∧ τ 4 = .int .i64 k ∧ Mine S' 26 1 S.n v3 cs k ∧ ∀ i (h : i < rows.length), i < k → ∃ rv, cs[i]? = some rv ∧ Mine S' 3 1 S.n rv (iv rows[i]) rows[i].length) rows.length ?_ ?_
  · refine ⟨Ext.refl hok, rfl, 0, .slice none 0 0, [], by simp, by simp, ?_, ?_, ?_, Mine.nil _ _ _ _, by simp⟩ <;> first | rfl | simp only [und3, und4, und22, und26, und29, und45, und64, info3, info4, info22, info26, info29, info45, info64, info50, aggT, J0, J1, J2, J3, J4, J5, J6, J7, J8, J9, J10, J11, J12, gv, dstAt, J13, J14, J15, J16, J17, J18, J19, J20, J21, J22, J23, J24, J25, J26, J27, J28, J29, J30, J31, J32, J33, J34, J35, J36, J37, J38, J39, J40, J41, J42, J43, J44, J45, J46, J47, J48, J49, J50, J51, J52, J53, J54, J55, J56, J57, J58, J59, aop, J60, J61, J62, evalsA, partsA, evalO, J63, J64, J65, J66, J67, J68, J69, J70, J71, updO, J72, ofArgs, J73, binV, intBin, J74, unV, J75, J76, mmV, builtinA, J77, J78, J79, J80, J81, J82, J83, J84, J85, J86, J87, J88, J89, Nat.reduceLT, Nat.reduceEqDiff, Nat.reduceAdd, Nat.reduceSub, Nat.reduceMul, reduceIte, J90, J91, J92, reduceCtorEq, J93, J94, J95, J96, J97, J98, J99, J100]
  · rintro m τ ds S' ⟨hE, rfl, k, v3, cs, rfl, hk, t0, t3, t4, hM, hcs⟩
    have hx' := hx.extd hE
    have hla := hx'.len (T := TT) und22
    by_cases hlt : k < rows.length
    · have e1 : decide ((k : Int) < rows.length) = true := by simpa using hlt
      have e2 : decide ((k : Int) ≤ 30) = true := by simp; omega
      obtain ⟨p, rv, p1, p2, hrow, hpl⟩ := hx'.row (T := TT) (k := .i64) und22 info26 und26 rfl hlt
      have hrl : rows[k].length < 31 := hr _ (List.getElem_mem hlt)
      have hw := wrap_succ (k := k) (by omega)
      repeat (first | with_reducible refine W_seq ?_ | with_reducible refine W_block ?_ | with_reducible refine W_scope ?_ | ((first | with_reducible refine W_regionV hTT ?_ | with_reducible refine W_condV ?_ | with_reducible refine W_ret ?_ | with_reducible refine W_exit ?_ | with_reducible refine W_skip ?_ | with_reducible refine W_label ?_ | with_reducible refine W_drawV hTT (by kernel_rfl) ?_); try simp only [und3, und4, und22, und26, und29, und45, und64, info3, info4, info22, info26, info29, info45, info64, info50, aggT, J0, J1, J2, J3, J4, J5, J6, J7, J8, J9, J10, J11, J12, gv, dstAt, J13, J14, J15, J16, J17, J18, J19, J20, J21, J22, J23, J24, J25, J26, J27, J28, J29, J30, J31, J32, J33, J34, J35, J36, J37, J38, J39, J40, J41, J42, J43, J44, J45, J46, J47, J48, J49, J50, J51, J52, J53, J54, J55, J56, J57, J58, J59, aop, J60, J61, J62, evalsA, partsA, evalO, J63, J64, J65, J66, J67, J68, J69, J70, J71, updO, J72, ofArgs, J73, binV, intBin, J74, unV, J75, J76, mmV, builtinA, J77, J78, J79, J80, J81, J82, J83, J84, J85, J86, J87, J88, J89, Nat.reduceLT, Nat.reduceEqDiff, Nat.reduceAdd, Nat.reduceSub, Nat.reduceMul, reduceIte, J90, J91, J92, reduceCtorEq, J93, J94, J95, J96, J97, J98, J99, J100, hla, t0, t3, t4, e1, e2, p1, p2, hw]))
      refine VCall_intro (list_call hE.ok hrow hpl) ?_
      rintro c S1 ⟨hc, hE1⟩
      rw [List.take_of_length_le (by omega)] at hc
      have hM1 : Mine S1 26 1 S.n v3 cs k := hM.same fun b hb => hE1.same b (hM.base hb).2
      have hcp := hc.plain.cells
      have b1 := bs_one (T := TT) (S := S1) (x := c) und22 info26 rfl rfl hcp.1
      obtain ⟨v', S2, a1, a2, a3, a4⟩ := hM1.push_one (T := TT) (x := c) hE1.ok (Nat.le_trans hE.n hE1.n) und22 info26 rfl hcp.2 (by omega) (by omega)
      have hE2 : Ext S S2 := a3.ext (hE.trans hE1) fun b hb => (hM1.base hb).1
      (try simp only [und3, und4, und22, und26, und29, und45, und64, info3, info4, info22, info26, info29, info45, info64, info50, aggT, J0, J1, J2, J3, J4, J5, J6, J7, J8, J9, J10, J11, J12, gv, dstAt, J13, J14, J15, J16, J17, J18, J19, J20, J21, J22, J23, J24, J25, J26, J27, J28, J29, J30, J31, J32, J33, J34, J35, J36, J37, J38, J39, J40, J41, J42, J43, J44, J45, J46, J47, J48, J49, J50, J51, J52, J53, J54, J55, J56, J57, J58, J59, aop, J60, J61, J62, evalsA, partsA, evalO, J63, J64, J65, J66, J67, J68, J69, J70, J71, updO, J72, ofArgs, J73, binV, intBin, J74, unV, J75, J76, mmV, builtinA, J77, J78, J79, J80, J81, J82, J83, J84, J85, J86, J87, J88, J89, Nat.reduceLT, Nat.reduceEqDiff, Nat.reduceAdd, Nat.reduceSub, Nat.reduceMul, reduceIte, J90, J91, J92, reduceCtorEq, J93, J94, J95, J96, J97, J98, J99, J100, t0, t3, t4, b1, a1, hw]); repeat (first | with_reducible refine W_seq ?_ | with_reducible refine W_block ?_ | with_reducible refine W_scope ?_ | ((first | with_reducible refine W_regionV hTT ?_ | with_reducible refine W_condV ?_ | with_reducible refine W_ret ?_ | with_reducible refine W_exit ?_ | with_reducible refine W_skip ?_ | with_reducible refine W_label ?_ | with_reducible refine W_drawV hTT (by kernel_rfl) ?_); try simp only [und3, und4, und22, und26, und29, und45, und64, info3, info4, info22, info26, info29, info45, info64, info50, aggT, J0, J1, J2, J3, J4, J5, J6, J7, J8, J9, J10, J11, J12, gv, dstAt, J13, J14, J15, J16, J17, J18, J19, J20, J21, J22, J23, J24, J25, J26, J27, J28, J29, J30, J31, J32, J33, J34, J35, J36, J37, J38, J39, J40, J41, J42, J43, J44, J45, J46, J47, J48, J49, J50, J51, J52, J53, J54, J55, J56, J57, J58, J59, aop, J60, J61, J62, evalsA, partsA, evalO, J63, J64, J65, J66, J67, J68, J69, J70, J71, updO, J72, ofArgs, J73, binV, intBin, J74, unV, J75, J76, mmV, builtinA, J77, J78, J79, J80, J81, J82, J83, J84, J85, J86, J87, J88, J89, Nat.reduceLT, Nat.reduceEqDiff, Nat.reduceAdd, Nat.reduceSub, Nat.reduceMul, reduceIte, J90, J91, J92, reduceCtorEq, J93, J94, J95, J96, J97, J98, J99, J100, t0, t3, t4, b1, a1, hw]))
      refine LoopQ_intro (rows.length - (k + 1)) (by omega) ⟨hE2, rfl, k + 1, v', cs ++ [c], rfl, by omega, by simp only [und3, und4, und22, und26, und29, und45, und64, info3, info4, info22, info26, info29, info45, info64, info50, aggT, J0, J1, J2, J3, J4, J5, J6, J7, J8, J9, J10, J11, J12, gv, dstAt, J13, J14, J15, J16, J17, J18, J19, J20, J21, J22, J23, J24, J25, J26, J27, J28, J29, J30, J31, J32, J33, J34, J35, J36, J37, J38, J39, J40, J41, J42, J43, J44, J45, J46, J47, J48, J49, J50, J51, J52, J53, J54, J55, J56, J57, J58, J59, aop, J60, J61, J62, evalsA, partsA, evalO, J63, J64, J65, J66, J67, J68, J69, J70, J71, updO, J72, ofArgs, J73, binV, intBin, J74, unV, J75, J76, mmV, builtinA, J77, J78, J79, J80, J81, J82, J83, J84, J85, J86, J87, J88, J89, Nat.reduceLT, Nat.reduceEqDiff, Nat.reduceAdd, Nat.reduceSub, Nat.reduceMul, reduceIte, J90, J91, J92, reduceCtorEq, J93, J94, J95, J96, J97, J98, J99, J100, t0], by simp only [und3, und4, und22, und26, und29, und45, und64, info3, info4, info22, info26, info29, info45, info64, info50, aggT, J0, J1, J2, J3, J4, J5, J6, J7, J8, J9, J10, J11, J12, gv, dstAt, J13, J14, J15, J16, J17, J18, J19, J20, J21, J22, J23, J24, J25, J26, J27, J28, J29, J30, J31, J32, J33, J34, J35, J36, J37, J38, J39, J40, J41, J42, J43, J44, J45, J46, J47, J48, J49, J50, J51, J52, J53, J54, J55, J56, J57, J58, J59, aop, J60, J61, J62, evalsA, partsA, evalO, J63, J64, J65, J66, J67, J68, J69, J70, J71, updO, J72, ofArgs, J73, binV, intBin, J74, unV, J75, J76, mmV, builtinA, J77, J78, J79, J80, J81, J82, J83, J84, J85, J86, J87, J88, J89, Nat.reduceLT, Nat.reduceEqDiff, Nat.reduceAdd, Nat.reduceSub, Nat.reduceMul, reduceIte, J90, J91, J92, reduceCtorEq, J93, J94, J95, J96, J97, J98, J99, J100], by simp only [und3, und4, und22, und26, und29, und45, und64, info3, info4, info22, info26, info29, info45, info64, info50, aggT, J0, J1, J2, J3, J4, J5, J6, J7, J8, J9, J10, J11, J12, gv, dstAt, J13, J14, J15, J16, J17, J18, J19, J20, J21, J22, J23, J24, J25, J26, J27, J28, J29, J30, J31, J32, J33, J34, J35, J36, J37, J38, J39, J40, J41, J42, J43, J44, J45, J46, J47, J48, J49, J50, J51, J52, J53, J54, J55, J56, J57, J58, J59, aop, J60, J61, J62, evalsA, partsA, evalO, J63, J64, J65, J66, J67, J68, J69, J70, J71, updO, J72, ofArgs, J73, binV, intBin, J74, unV, J75, J76, mmV, builtinA, J77, J78, J79, J80, J81, J82, J83, J84, J85, J86, J87, J88, J89, Nat.reduceLT, Nat.reduceEqDiff, Nat.reduceAdd, Nat.reduceSub, Nat.reduceMul, reduceIte, J90, J91, J92, reduceCtorEq, J93, J94, J95, J96, J97, J98, J99, J100, t4, hw], a2, ?_⟩
      intro i hi hik
      by_cases e : i = k
      · subst e
        refine ⟨c, ?_, (hc.but hM1 (by decide) a3).mono hE.n⟩
        have hlen := hM1.sl.length
        rw [Nat.mul_one] at hlen
        rw [List.getElem?_append_right (by omega), hlen, Nat.sub_self]
        rfl
      · obtain ⟨rv', g1, g2⟩ := hcs i hi (by omega)
        have hlen := hM1.sl.length
        rw [Nat.mul_one] at hlen
        have g3 : Mine S1 3 1 S.n rv' (iv rows[i]) rows[i].length := g2.same fun b hb => hE1.same b (g2.base hb).2
        exact ⟨rv', by rw [List.getElem?_append_left (by omega)]; exact g1, g3.but hM1 (by decide) a3⟩
    · have e1 : decide ((k : Int) < rows.length) = false := by simpa using hlt
      have hkk : k = rows.length := by omega
      subst hkk
      repeat (first | with_reducible refine W_seq ?_ | with_reducible refine W_block ?_ | with_reducible refine W_scope ?_ | ((first | with_reducible refine W_regionV hTT ?_ | with_reducible refine W_condV ?_ | with_reducible refine W_ret ?_ | with_reducible refine W_exit ?_ | with_reducible refine W_skip ?_ | with_reducible refine W_label ?_ | with_reducible refine W_drawV hTT (by kernel_rfl) ?_); try simp only [und3, und4, und22, und26, und29, und45, und64, info3, info4, info22, info26, info29, info45, info64, info50, aggT, J0, J1, J2, J3, J4, J5, J6, J7, J8, J9, J10, J11, J12, gv, dstAt, J13, J14, J15, J16, J17, J18, J19, J20, J21, J22, J23, J24, J25, J26, J27, J28, J29, J30, J31, J32, J33, J34, J35, J36, J37, J38, J39, J40, J41, J42, J43, J44, J45, J46, J47, J48, J49, J50, J51, J52, J53, J54, J55, J56, J57, J58, J59, aop, J60, J61, J62, evalsA, partsA, evalO, J63, J64, J65, J66, J67, J68, J69, J70, J71, updO, J72, ofArgs, J73, binV, intBin, J74, unV, J75, J76, mmV, builtinA, J77, J78, J79, J80, J81, J82, J83, J84, J85, J86, J87, J88, J89, Nat.reduceLT, Nat.reduceEqDiff, Nat.reduceAdd, Nat.reduceSub, Nat.reduceMul, reduceIte, J90, J91, J92, reduceCtorEq, J93, J94, J95, J96, J97, J98, J99, J100, hla, t0, t3, t4, e1]))
      exact ⟨⟨cs, hM⟩, ⟨cs, hM.sl, fun i hi => by obtain ⟨rv, g1, g2⟩ := hcs i hi hi; exact ⟨rv, g1, g2.sl, g2.plain⟩⟩, hE⟩
end Go.Proofs.Sz
end
/- part Wn -/
section
/- Square tables that a call has made itself and writes. Program-independent. -/
namespace Go.Ax
open Go.RowKit Go.Proofs
section
variable {T : Tab} {S S' : St}
/-- the first n values of f -/
def mrow (n : Nat) (f : Nat → Int) : List Int := (List.range n).map f
def mrows (m n : Nat) (M : Nat → Nat → Int) : List (List Int) := (List.range m).map fun i => mrow n (M i)
theorem mrow_len (n : Nat) (f : Nat → Int) : (mrow n f).length = n := by simp [mrow]
theorem mrows_len (m n : Nat) (M : Nat → Nat → Int) : (mrows m n M).length = m := by simp [mrows]
theorem mrow_get {n i : Nat} (f : Nat → Int) (h : i < n) : (mrow n f)[i]? = some (f i) := by simp [mrow, h]
theorem mrow_get' {n i : Nat} (f : Nat → Int) (h : i < (mrow n f).length) : (mrow n f)[i] = f i := by simp [mrow]
theorem mrows_get {m n i : Nat} (M : Nat → Nat → Int) (h : i < (mrows m n M).length) : (mrows m n M)[i] = mrow n (M i) := by simp [mrows]
theorem mrow_congr {n : Nat} {f g : Nat → Int} (h : ∀ i, i < n → f i = g i) : mrow n f = mrow n g := by
  unfold mrow
  apply List.map_congr_left
  intro i hi
  exact h i (List.mem_range.1 hi)
theorem mrow_set (n : Nat) (f : Nat → Int) (j : Nat) (x : Int) : (mrow n f).set j x = mrow n (fun k => if k = j then x else f k) := by
  unfold mrow
  apply List.ext_getElem?
  intro k
  rw [List.getElem?_set]
  by_cases e : j = k
  · subst e
    by_cases h : j < n <;> simp [h]
  · have e' : k ≠ j := fun h => e h.symm
    rw [if_neg e]
    by_cases h : k < n
    · simp [h, e']
    · simp [h]
theorem mrow_zero (n : Nat) : List.replicate n (Value.int .i64 0) = iv (mrow n fun _ => 0) := by
  apply List.ext_getElem?
  intro k
  rw [iv_get, List.getElem?_replicate]
  unfold mrow
  by_cases h : k < n <;> simp [h]
/-- a row of n cells, whole -/
def rowv (n b : Nat) : Value := .slice (some ⟨b, 0, none⟩) n n
/-- rows of one's own -/
structure OwnR (S : St) (lo n : Nat) (e : TypeId) (bs : List Nat) (M : Nat → Nat → Int) : Prop where
  lo : ∀ i (h : i < bs.length), lo ≤ bs[i]
  get : ∀ i (h : i < bs.length), S.get bs[i] = some (.cells (iv (mrow n (M i))) e 0)
  nodup : ∀ i j (h : i < bs.length) (h' : j < bs.length), bs[i] = bs[j] → i = j
def setM (M : Nat → Nat → Int) (i j : Nat) (x : Int) : Nat → Nat → Int := fun a b => if a = i ∧ b = j then x else M a b
theorem OwnR.keep {lo n : Nat} {e : TypeId} {bs : List Nat} {M : Nat → Nat → Int} (h : OwnR S lo n e bs M) (hs : ∀ i (h : i < bs.length), S'.get bs[i] = S.get bs[i]) : OwnR S' lo n e bs M :=
  ⟨h.lo, fun i hi => by rw [hs i hi]; exact h.get i hi, h.nodup⟩
theorem OwnR.sl {lo n : Nat} {e : TypeId} {bs : List Nat} {M : Nat → Nat → Int} (h : OwnR S lo n e bs M) (hn : n < 4611686018427387904) {i : Nat} (hi : i < bs.length) : Sl S 1 (rowv n bs[i]) (iv (mrow n (M i))) (mrow n (M i)).length := by
  have := Sl.of_cells (sz := 1) (n := n) (c := n) (h.get i hi) (by rw [iv_len, mrow_len, Nat.mul_one]) (small_BIG hn) (Nat.le_refl _)
  rw [mrow_len]
  exact this
theorem OwnR.store {lo n : Nat} {e : TypeId} {bs : List Nat} {M : Nat → Nat → Int} (h : OwnR S lo n e bs M) (hok : S.ok) {z : Value} {by' : Nat} (he : T.info e = some ⟨z, 1, by'⟩) {i j : Nat} (hi : i < bs.length) (hj : j < n) (x : Int) :
    storeA T S e (.int .i64 x) (.pointer (some ⟨bs[i], j, none⟩)) = some (S.set bs[i] (.cells (iv (mrow n (setM M i j x i))) e 0)) ∧ OwnR (S.set bs[i] (.cells (iv (mrow n (setM M i j x i))) e 0)) lo n e bs (setM M i j x) := by
  have hg := h.get i hi
  have hlt := lt_of_get hg
  have hs := store_one (T := T) (v := .int .i64 x) he hg rfl rfl (o := j) (by rw [iv_len, mrow_len]; exact hj)
  have hset : (iv (mrow n (M i))).set j (.int .i64 x) = iv (mrow n (setM M i j x i)) := by
    have : (iv (mrow n (M i))).set j (.int .i64 x) = iv ((mrow n (M i)).set j x) := by simp [iv, List.map_set]
    rw [this, mrow_set]
    congr 1
    apply mrow_congr
    intro k _
    unfold setM
    by_cases e : k = j <;> simp [e]
  rw [hset] at hs
  refine ⟨hs, h.lo, fun k hk => ?_, h.nodup⟩
  by_cases ek : k = i
  · subst ek
    exact get_set_same _ hok hlt rfl
  · rw [get_set_ne _ hlt (fun e => ek (h.nodup _ _ _ _ e)), h.get k hk]
    congr 3
    apply mrow_congr
    intro a _
    unfold setM
    rw [if_neg (fun hh => ek hh.1)]
theorem rows_at {n m : Nat} {eo ty : TypeId} {bs : List Nat} {v : Value} (hv : Sl S 1 v (bs.map (rowv n)) m) (hm : bs.length = m) {ti : TI} {f : TypeId} (hu : T.und ty = some (.slice eo)) (he : T.info eo = some ti) (hd : T.und eo = some (.slice f)) (hsz : ti.size = 1) {k : IntKind} {i : Nat} (hi : i < bs.length) :
    ∃ p, indexAddrA T ty (.int k i) v = some p ∧ loadA T S eo p = some (rowv n bs[i]) := by
  obtain ⟨p, p1, p2, _⟩ := hv.at1 (T := T) (k := k) hu he hd hsz rfl (i := i) (by omega)
  refine ⟨p, p1, ?_⟩
  rw [p2, List.getElem?_map, List.getElem?_eq_getElem hi]
  rfl
theorem OwnR.mat {lo n m : Nat} {e : TypeId} {bs : List Nat} {M : Nat → Nat → Int} (h : OwnR S lo n e bs M) {v : Value} (hv : Sl S 1 v (bs.map (rowv n)) m) (hm : bs.length = m) (hn : n < 4611686018427387904) : Mat S v (mrows m n M) := by
  refine ⟨bs.map (rowv n), by rw [mrows_len]; exact hv, fun i hi => ?_⟩
  have hi' : i < bs.length := by rw [mrows_len] at hi; omega
  refine ⟨rowv n bs[i], by rw [List.getElem?_map, List.getElem?_eq_getElem hi']; rfl, ?_, ?_⟩
  · rw [mrows_get]
    exact h.sl hn hi'
  · rw [mrows_get, mrow_len]
    exact .mk
/-- one more row of zeros, behind what grew -/
theorem OwnR.more {lo n : Nat} {e : TypeId} {bs : List Nat} {M : Nat → Nat → Int} (h : OwnR S lo n e bs M) (hM : ∀ j, M bs.length j = 0) (hs : ∀ i (h : i < bs.length), S'.get bs[i] = S.get bs[i]) {b : Nat} (hb : S'.get b = some (.cells (iv (mrow n fun _ => 0)) e 0)) (hl : lo ≤ b) (hne : ∀ i (h : i < bs.length), bs[i] ≠ b) : OwnR S' lo n e (bs ++ [b]) M := by
  refine ⟨fun i hi => ?_, fun i hi => ?_, fun i j hi hj => ?_⟩
  · rw [List.getElem_append]
    split
    · exact h.lo i _
    · simpa using hl
  · rw [List.getElem_append]
    split
    · rename_i hlt; rw [hs i hlt]; exact h.get i hlt
    · rename_i hge
      have : i = bs.length := by simp at hi; omega
      subst this
      simp only [List.getElem_singleton]
      rw [hb]
      congr 3
      apply mrow_congr
      intro j _
      exact (hM j).symm
  · rw [List.getElem_append, List.getElem_append]
    intro e
    simp at hi hj
    split at e <;> split at e
    · exact h.nodup _ _ _ _ e
    · exact absurd (by simpa using e) (hne i _)
    · exact absurd (by simpa using e.symm) (hne j _)
    · omega
end
end Go.Ax
end
/- part Zn -/
section
namespace Go.Proofs.Sz
open Go Go.Ax Go.Proofs Go.RowKit
/-- a contest, as a function -/
def IsC (n : Nat) (M : Nat → Nat → Int) : Prop := ∀ i j, i < n → j < n → (i = j → M i j = 0) ∧ (i ≠ j → (M i j = 0 ∨ M i j = 1) ∧ M i j + M j i = 1)
/-- all pairs ahead of (i, j) are played -/
def PlayedTo (n i j : Nat) (M : Nat → Nat → Int) : Prop := (∀ a, M a a = 0) ∧ ∀ a b, a < b → b < n → (a < i ∨ (a = i ∧ b < j)) → (M a b = 0 ∨ M a b = 1) ∧ M a b + M b a = 1
theorem PlayedTo.step {n i j : Nat} {M : Nat → Nat → Int} (h : PlayedTo n i j M) (hij : i < j) {x : Int} (hx : x = 0 ∨ x = 1) : PlayedTo n i (j + 1) (setM (setM M i j x) j i (1 - x)) := by
  refine ⟨fun a => ?_, fun a b hab hb ho => ?_⟩
  · unfold setM
    rw [if_neg (by omega), if_neg (by omega)]
    exact h.1 a
  · by_cases e : a = i ∧ b = j
    · obtain ⟨rfl, rfl⟩ := e
      unfold setM
      rw [if_neg (by omega), if_pos ⟨rfl, rfl⟩, if_pos ⟨rfl, rfl⟩]
      omega
    · have := h.2 a b hab hb (by omega)
      unfold setM
      rw [if_neg (by omega), if_neg (by omega), if_neg (by omega), if_neg (by omega)]
      exact this
theorem PlayedTo.next {n i : Nat} {M : Nat → Nat → Int} (h : PlayedTo n i n M) : PlayedTo n (i + 1) (i + 1 + 1) M :=
  ⟨h.1, fun a b hab hb ho => h.2 a b hab hb (by omega)⟩
theorem PlayedTo.all {n i j : Nat} {M : Nat → Nat → Int} (h : PlayedTo n i j M) (hi : n ≤ i) : IsC n M := by
  intro a b ha hb
  refine ⟨fun e => by subst e; exact h.1 a, fun hne => ?_⟩
  rcases Nat.lt_or_gt_of_ne hne with hlt | hgt
  · exact h.2 a b hlt hb (by omega)
  · have := h.2 b a hgt ha (by omega)
    omega
theorem fn7 : TT.fn 7 = some Tryz.f7 := by kernel_rfl
set_option maxHeartbeats 4000000 in
/-- contest -/
theorem contest_call {S : St} (hok : S.ok) {vl : Value} {ls : List (List Int)} (hx : Mat S vl ls) {n : Nat} (hn : n < 31) :
    CallW PP 7 [vl, .int .i64 n] S (fun v S' => (∃ M, IsC n M ∧ Mat S' v (mrows n n M)) ∧ Plain v n ∧ Ext S S') := by
  refine CallW_of hTT fn7 rfl (by simp [Tryz.f7]) ?_
  unfold Tryz.f7
  (try simp only [und3, und4, und22, und26, und29, und45, und64, info3, info4, info22, info26, info29, info45, info64, info50, aggT, J0, J1, J2, J3, J4, J5, J6, J7, J8, J9, J10, J11, J12, gv, dstAt, J13, J14, J15, J16, J17, J18, J19, J20, J21, J22, J23, J24, J25, J26, J27, J28, J29, J30, J31, J32, J33, J34, J35, J36, J37, J38, J39, J40, J41, J42, J43, J44, J45, J46, J47, J48, J49, J50, J51, J52, J53, J54, J55, J56, J57, J58, J59, aop, J60, J61, J62, evalsA, partsA, evalO, J63, J64, J65, J66, J67, J68, J69, J70, J71, updO, J72, ofArgs, J73, binV, intBin, J74, unV, J75, J76, mmV, builtinA, J77, J78, J79, J80, J81, J82, J83, J84, J85, J86, J87, J88, J89, Nat.reduceLT, Nat.reduceEqDiff, Nat.reduceAdd, Nat.reduceSub, Nat.reduceMul, reduceIte, J90, J91, J92, reduceCtorEq, J93, J94, J95, J96, J97, J98, J99, J100]); repeat (first | with_reducible refine W_seq ?_ | with_reducible refine W_scope ?_ | ((first | with_reducible refine W_regionV hTT ?_ | with_reducible refine W_condV ?_ | with_reducible refine W_ret ?_ | with_reducible refine W_exit ?_ | with_reducible refine W_skip ?_ | with_reducible refine W_label ?_ | with_reducible refine W_drawV hTT (by kernel_rfl) ?_); try simp only [und3, und4, und22, und26, und29, und45, und64, info3, info4, info22, info26, info29, info45, info64, info50, aggT, J0, J1, J2, J3, J4, J5, J6, J7, J8, J9, J10, J11, J12, gv, dstAt, J13, J14, J15, J16, J17, J18, J19, J20, J21, J22, J23, J24, J25, J26, J27, J28, J29, J30, J31, J32, J33, J34, J35, J36, J37, J38, J39, J40, J41, J42, J43, J44, J45, J46, J47, J48, J49, J50, J51, J52, J53, J54, J55, J56, J57, J58, J59, aop, J60, J61, J62, evalsA, partsA, evalO, J63, J64, J65, J66, J67, J68, J69, J70, J71, updO, J72, ofArgs, J73, binV, intBin, J74, unV, J75, J76, mmV, builtinA, J77, J78, J79, J80, J81, J82, J83, J84, J85, J86, J87, J88, J89, Nat.reduceLT, Nat.reduceEqDiff, Nat.reduceAdd, Nat.reduceSub, Nat.reduceMul, reduceIte, J90, J91, J92, reduceCtorEq, J93, J94, J95, J96, J97, J98, J99, J100]))
  refine W_cut (fun τ ds S' => Ext S S' ∧ ds = [] ∧ ∃ (v5 : Value) (bs : List Nat), bs.length = n ∧ τ 0 = vl ∧ τ 1 = .int .i64 n ∧ τ 5 = v5 ∧ Mine S' 26 1 S.n v5 (bs.map (rowv n)) n ∧ OwnR S' S.n n 3 bs (fun _ _ => 0)) ?_ ?_
  · refine W_block ?_
    refine W_loopI (fun m τ ds S' => Ext S S' ∧ ds = [] ∧ ∃ (k : Nat) (v5 : Value) (bs : List Nat), m = n - k ∧ k ≤ n ∧ bs.length = k ∧ τ 0 = vl ∧ τ 1 = .int .i64 n ∧ τ 5 = v5 ∧ τ 6 = .int .i64 k ∧ Mine S' 26 1 S.n v5 (bs.map (rowv n)) k ∧ OwnR S' S.n n 3 bs (fun _ _ => 0)) n ?_ ?_
    · refine ⟨Ext.refl hok, rfl, 0, .slice none 0 0, [], by simp, by simp, rfl, ?_, ?_, ?_, ?_, Mine.nil _ _ _ _, ⟨by simp, by simp, by simp⟩⟩ <;> first | rfl | simp only [und3, und4, und22, und26, und29, und45, und64, info3, info4, info22, info26, info29, info45, info64, info50, aggT, J0, J1, J2, J3, J4, J5, J6, J7, J8, J9, J10, J11, J12, gv, dstAt, J13, J14, J15, J16, J17, J18, J19, J20, J21, J22, J23, J24, J25, J26, J27, J28, J29, J30, J31, J32, J33, J34, J35, J36, J37, J38, J39, J40, J41, J42, J43, J44, J45, J46, J47, J48, J49, J50, J51, J52, J53, J54, J55, J56, J57, J58, J59, aop, J60, J61, J62, evalsA, partsA, evalO, J63, J64, J65, J66, J67, J68, J69, J70, J71, updO, J72, ofArgs, J73, binV, intBin, J74, unV, J75, J76, mmV, builtinA, J77, J78, J79, J80, J81, J82, J83, J84, J85, J86, J87, J88, J89, Nat.reduceLT, Nat.reduceEqDiff, Nat.reduceAdd, Nat.reduceSub, Nat.reduceMul, reduceIte, J90, J91, J92, reduceCtorEq, J93, J94, J95, J96, J97, J98, J99, J100]
    · rintro m τ ds S' ⟨hE, rfl, k, v5, bs, rfl, hk, hbs, t0, t1, t5, t6, hM, hR⟩
      by_cases hlt : k < n
      · have e1 : decide ((k : Int) < n) = true := by simpa using hlt
        have hw := wrap_succ (k := k) (by omega)
        have hmk := make_one (T := TT) (S := S') (m := n) (k := .i64) (k' := .i64) und26 info3 rfl rfl (by omega) (by omega)
        rw [mrow_zero] at hmk
        change _ = some (rowv n S'.n, _) at hmk
        have hok1 : (S'.push (.cells (iv (mrow n fun _ => 0)) 3 0)).ok := by rw [ok_push_iff]; exact hE.ok
        have hE1 : Ext S (S'.push (.cells (iv (mrow n fun _ => 0)) 3 0)) := hE.push _
        have hM1 : Mine (S'.push (.cells (iv (mrow n fun _ => 0)) 3 0)) 26 1 S.n v5 (bs.map (rowv n)) k := hM.same fun b hb => get_push_ne _ (by have := (hM.base hb).2; omega)
        have b1 := bs_one (T := TT) (S := S'.push (.cells (iv (mrow n fun _ => 0)) 3 0)) (x := rowv n S'.n) und22 info26 rfl rfl rfl
        obtain ⟨v', S2, a1, a2, a3, a4⟩ := hM1.push_one (T := TT) (x := rowv n S'.n) hok1 hE1.n und22 info26 rfl rfl (by omega) (by omega)
        have hE2 : Ext S S2 := a3.ext hE1 fun b hb => (hM1.base hb).1
        repeat (first | with_reducible refine W_seq ?_ | with_reducible refine W_block ?_ | with_reducible refine W_scope ?_ | ((first | with_reducible refine W_regionV hTT ?_ | with_reducible refine W_condV ?_ | with_reducible refine W_ret ?_ | with_reducible refine W_exit ?_ | with_reducible refine W_skip ?_ | with_reducible refine W_label ?_ | with_reducible refine W_drawV hTT (by kernel_rfl) ?_); try simp only [und3, und4, und22, und26, und29, und45, und64, info3, info4, info22, info26, info29, info45, info64, info50, aggT, J0, J1, J2, J3, J4, J5, J6, J7, J8, J9, J10, J11, J12, gv, dstAt, J13, J14, J15, J16, J17, J18, J19, J20, J21, J22, J23, J24, J25, J26, J27, J28, J29, J30, J31, J32, J33, J34, J35, J36, J37, J38, J39, J40, J41, J42, J43, J44, J45, J46, J47, J48, J49, J50, J51, J52, J53, J54, J55, J56, J57, J58, J59, aop, J60, J61, J62, evalsA, partsA, evalO, J63, J64, J65, J66, J67, J68, J69, J70, J71, updO, J72, ofArgs, J73, binV, intBin, J74, unV, J75, J76, mmV, builtinA, J77, J78, J79, J80, J81, J82, J83, J84, J85, J86, J87, J88, J89, Nat.reduceLT, Nat.reduceEqDiff, Nat.reduceAdd, Nat.reduceSub, Nat.reduceMul, reduceIte, J90, J91, J92, reduceCtorEq, J93, J94, J95, J96, J97, J98, J99, J100, t0, t1, t5, t6, e1, hmk, b1, a1, hw]))
        refine LoopQ_intro (n - (k + 1)) (by omega) ⟨hE2, rfl, k + 1, v', bs ++ [S'.n], rfl, by omega, by simp [hbs], by simp only [und3, und4, und22, und26, und29, und45, und64, info3, info4, info22, info26, info29, info45, info64, info50, aggT, J0, J1, J2, J3, J4, J5, J6, J7, J8, J9, J10, J11, J12, gv, dstAt, J13, J14, J15, J16, J17, J18, J19, J20, J21, J22, J23, J24, J25, J26, J27, J28, J29, J30, J31, J32, J33, J34, J35, J36, J37, J38, J39, J40, J41, J42, J43, J44, J45, J46, J47, J48, J49, J50, J51, J52, J53, J54, J55, J56, J57, J58, J59, aop, J60, J61, J62, evalsA, partsA, evalO, J63, J64, J65, J66, J67, J68, J69, J70, J71, updO, J72, ofArgs, J73, binV, intBin, J74, unV, J75, J76, mmV, builtinA, J77, J78, J79, J80, J81, J82, J83, J84, J85, J86, J87, J88, J89, Nat.reduceLT, Nat.reduceEqDiff, Nat.reduceAdd, Nat.reduceSub, Nat.reduceMul, reduceIte, J90, J91, J92, reduceCtorEq, J93, J94, J95, J96, J97, J98, J99, J100, t0], by simp only [und3, und4, und22, und26, und29, und45, und64, info3, info4, info22, info26, info29, info45, info64, info50, aggT, J0, J1, J2, J3, J4, J5, J6, J7, J8, J9, J10, J11, J12, gv, dstAt, J13, J14, J15, J16, J17, J18, J19, J20, J21, J22, J23, J24, J25, J26, J27, J28, J29, J30, J31, J32, J33, J34, J35, J36, J37, J38, J39, J40, J41, J42, J43, J44, J45, J46, J47, J48, J49, J50, J51, J52, J53, J54, J55, J56, J57, J58, J59, aop, J60, J61, J62, evalsA, partsA, evalO, J63, J64, J65, J66, J67, J68, J69, J70, J71, updO, J72, ofArgs, J73, binV, intBin, J74, unV, J75, J76, mmV, builtinA, J77, J78, J79, J80, J81, J82, J83, J84, J85, J86, J87, J88, J89, Nat.reduceLT, Nat.reduceEqDiff, Nat.reduceAdd, Nat.reduceSub, Nat.reduceMul, reduceIte, J90, J91, J92, reduceCtorEq, J93, J94, J95, J96, J97, J98, J99, J100, t1], by simp only [und3, und4, und22, und26, und29, und45, und64, info3, info4, info22, info26, info29, info45, info64, info50, aggT, J0, J1, J2, J3, J4, J5, J6, J7, J8, J9, J10, J11, J12, gv, dstAt, J13, J14, J15, J16, J17, J18, J19, J20, J21, J22, J23, J24, J25, J26, J27, J28, J29, J30, J31, J32, J33, J34, J35, J36, J37, J38, J39, J40, J41, J42, J43, J44, J45, J46, J47, J48, J49, J50, J51, J52, J53, J54, J55, J56, J57, J58, J59, aop, J60, J61, J62, evalsA, partsA, evalO, J63, J64, J65, J66, J67, J68, J69, J70, J71, updO, J72, ofArgs, J73, binV, intBin, J74, unV, J75, J76, mmV, builtinA, J77, J78, J79, J80, J81, J82, J83, J84, J85, J86, J87, J88, J89, Nat.reduceLT, Nat.reduceEqDiff, Nat.reduceAdd, Nat.reduceSub, Nat.reduceMul, reduceIte, J90, J91, J92, reduceCtorEq, J93, J94, J95, J96, J97, J98, J99, J100], by simp only [und3, und4, und22, und26, und29, und45, und64, info3, info4, info22, info26, info29, info45, info64, info50, aggT, J0, J1, J2, J3, J4, J5, J6, J7, J8, J9, J10, J11, J12, gv, dstAt, J13, J14, J15, J16, J17, J18, J19, J20, J21, J22, J23, J24, J25, J26, J27, J28, J29, J30, J31, J32, J33, J34, J35, J36, J37, J38, J39, J40, J41, J42, J43, J44, J45, J46, J47, J48, J49, J50, J51, J52, J53, J54, J55, J56, J57, J58, J59, aop, J60, J61, J62, evalsA, partsA, evalO, J63, J64, J65, J66, J67, J68, J69, J70, J71, updO, J72, ofArgs, J73, binV, intBin, J74, unV, J75, J76, mmV, builtinA, J77, J78, J79, J80, J81, J82, J83, J84, J85, J86, J87, J88, J89, Nat.reduceLT, Nat.reduceEqDiff, Nat.reduceAdd, Nat.reduceSub, Nat.reduceMul, reduceIte, J90, J91, J92, reduceCtorEq, J93, J94, J95, J96, J97, J98, J99, J100, t6, hw], by rw [List.map_append]; exact a2, ?_⟩
        have hnew : ∀ b, b < (S'.push (.cells (iv (mrow n fun _ => 0)) 3 0)).n → (∃ cs, (S'.push (.cells (iv (mrow n fun _ => 0)) 3 0)).get b = some (.cells cs 3 0)) → S2.get b = (S'.push (.cells (iv (mrow n fun _ => 0)) 3 0)).get b := by
          intro b hb ⟨cs, hcs⟩
          refine a3.same b hb fun e => ?_
          rcases hM1 with ⟨rfl, _⟩ | ⟨b1, rfl, _, h2, _⟩
          · cases e
          · cases e
            rw [hcs] at h2
            cases h2
        refine hR.more (fun _ => rfl) (fun i hi => ?_) (b := S'.n) ?_ hE.n (fun i hi => ?_)
        · have hg := hR.get i hi
          have hl := lt_of_get hg
          have hp : (S'.push (.cells (iv (mrow n fun _ => 0)) 3 0)).get bs[i] = S'.get bs[i] := get_push_ne _ (by omega)
          rw [hnew _ (by rw [push_n]; omega) ⟨_, by rw [hp]; exact hg⟩, hp]
        · rw [hnew _ (by rw [push_n]; omega) ⟨_, get_push_new _ rfl⟩]
          exact get_push_new _ rfl
        · have := lt_of_get (hR.get i hi)
          omega
      · have e1 : decide ((k : Int) < n) = false := by simpa using hlt
        have hkk : k = n := by omega
        subst hkk
        repeat (first | with_reducible refine W_seq ?_ | with_reducible refine W_block ?_ | with_reducible refine W_scope ?_ | ((first | with_reducible refine W_regionV hTT ?_ | with_reducible refine W_condV ?_ | with_reducible refine W_ret ?_ | with_reducible refine W_exit ?_ | with_reducible refine W_skip ?_ | with_reducible refine W_label ?_ | with_reducible refine W_drawV hTT (by kernel_rfl) ?_); try simp only [und3, und4, und22, und26, und29, und45, und64, info3, info4, info22, info26, info29, info45, info64, info50, aggT, J0, J1, J2, J3, J4, J5, J6, J7, J8, J9, J10, J11, J12, gv, dstAt, J13, J14, J15, J16, J17, J18, J19, J20, J21, J22, J23, J24, J25, J26, J27, J28, J29, J30, J31, J32, J33, J34, J35, J36, J37, J38, J39, J40, J41, J42, J43, J44, J45, J46, J47, J48, J49, J50, J51, J52, J53, J54, J55, J56, J57, J58, J59, aop, J60, J61, J62, evalsA, partsA, evalO, J63, J64, J65, J66, J67, J68, J69, J70, J71, updO, J72, ofArgs, J73, binV, intBin, J74, unV, J75, J76, mmV, builtinA, J77, J78, J79, J80, J81, J82, J83, J84, J85, J86, J87, J88, J89, Nat.reduceLT, Nat.reduceEqDiff, Nat.reduceAdd, Nat.reduceSub, Nat.reduceMul, reduceIte, J90, J91, J92, reduceCtorEq, J93, J94, J95, J96, J97, J98, J99, J100, t0, t1, t5, t6, e1]))
        refine NQ_intro ⟨hE, rfl, v5, bs, hbs, by simp only [und3, und4, und22, und26, und29, und45, und64, info3, info4, info22, info26, info29, info45, info64, info50, aggT, J0, J1, J2, J3, J4, J5, J6, J7, J8, J9, J10, J11, J12, gv, dstAt, J13, J14, J15, J16, J17, J18, J19, J20, J21, J22, J23, J24, J25, J26, J27, J28, J29, J30, J31, J32, J33, J34, J35, J36, J37, J38, J39, J40, J41, J42, J43, J44, J45, J46, J47, J48, J49, J50, J51, J52, J53, J54, J55, J56, J57, J58, J59, aop, J60, J61, J62, evalsA, partsA, evalO, J63, J64, J65, J66, J67, J68, J69, J70, J71, updO, J72, ofArgs, J73, binV, intBin, J74, unV, J75, J76, mmV, builtinA, J77, J78, J79, J80, J81, J82, J83, J84, J85, J86, J87, J88, J89, Nat.reduceLT, Nat.reduceEqDiff, Nat.reduceAdd, Nat.reduceSub, Nat.reduceMul, reduceIte, J90, J91, J92, reduceCtorEq, J93, J94, J95, J96, J97, J98, J99, J100, t0], by simp only [und3, und4, und22, und26, und29, und45, und64, info3, info4, info22, info26, info29, info45, info64, info50, aggT, J0, J1, J2, J3, J4, J5, J6, J7, J8, J9, J10, J11, J12, gv, dstAt, J13, J14, J15, J16, J17, J18, J19, J20, J21, J22, J23, J24, J25, J26, J27, J28, J29, J30, J31, J32, J33, J34, J35, J36, J37, J38, J39, J40, J41, J42, J43, J44, J45, J46, J47, J48, J49, J50, J51, J52, J53, J54, J55, J56, J57, J58, J59, aop, J60, J61, J62, evalsA, partsA, evalO, J63, J64, J65, J66, J67, J68, J69, J70, J71, updO, J72, ofArgs, J73, binV, intBin, J74, unV, J75, J76, mmV, builtinA, J77, J78, J79, J80, J81, J82, J83, J84, J85, J86, J87, J88, J89, Nat.reduceLT, Nat.reduceEqDiff, Nat.reduceAdd, Nat.reduceSub, Nat.reduceMul, reduceIte, J90, J91, J92, reduceCtorEq, J93, J94, J95, J96, J97, J98, J99, J100, t1], by simp only [und3, und4, und22, und26, und29, und45, und64, info3, info4, info22, info26, info29, info45, info64, info50, aggT, J0, J1, J2, J3, J4, J5, J6, J7, J8, J9, J10, J11, J12, gv, dstAt, J13, J14, J15, J16, J17, J18, J19, J20, J21, J22, J23, J24, J25, J26, J27, J28, J29, J30, J31, J32, J33, J34, J35, J36, J37, J38, J39, J40, J41, J42, J43, J44, J45, J46, J47, J48, J49, J50, J51, J52, J53, J54, J55, J56, J57, J58, J59, aop, J60, J61, J62, evalsA, partsA, evalO, J63, J64, J65, J66, J67, J68, J69, J70, J71, updO, J72, ofArgs, J73, binV, intBin, J74, unV, J75, J76, mmV, builtinA, J77, J78, J79, J80, J81, J82, J83, J84, J85, J86, J87, J88, J89, Nat.reduceLT, Nat.reduceEqDiff, Nat.reduceAdd, Nat.reduceSub, Nat.reduceMul, reduceIte, J90, J91, J92, reduceCtorEq, J93, J94, J95, J96, J97, J98, J99, J100, t5], hM, hR⟩
  · rintro τ ds S1 ⟨hE, rfl, v5, bs, hbs, t0, t1, t5, hM, hR⟩
    (try simp only [und3, und4, und22, und26, und29, und45, und64, info3, info4, info22, info26, info29, info45, info64, info50, aggT, J0, J1, J2, J3, J4, J5, J6, J7, J8, J9, J10, J11, J12, gv, dstAt, J13, J14, J15, J16, J17, J18, J19, J20, J21, J22, J23, J24, J25, J26, J27, J28, J29, J30, J31, J32, J33, J34, J35, J36, J37, J38, J39, J40, J41, J42, J43, J44, J45, J46, J47, J48, J49, J50, J51, J52, J53, J54, J55, J56, J57, J58, J59, aop, J60, J61, J62, evalsA, partsA, evalO, J63, J64, J65, J66, J67, J68, J69, J70, J71, updO, J72, ofArgs, J73, binV, intBin, J74, unV, J75, J76, mmV, builtinA, J77, J78, J79, J80, J81, J82, J83, J84, J85, J86, J87, J88, J89, Nat.reduceLT, Nat.reduceEqDiff, Nat.reduceAdd, Nat.reduceSub, Nat.reduceMul, reduceIte, J90, J91, J92, reduceCtorEq, J93, J94, J95, J96, J97, J98, J99, J100, t0, t1, t5]); repeat (first | with_reducible refine W_seq ?_ | with_reducible refine W_scope ?_ | ((first | with_reducible refine W_regionV hTT ?_ | with_reducible refine W_condV ?_ | with_reducible refine W_ret ?_ | with_reducible refine W_exit ?_ | with_reducible refine W_skip ?_ | with_reducible refine W_label ?_ | with_reducible refine W_drawV hTT (by kernel_rfl) ?_); try simp only [und3, und4, und22, und26, und29, und45, und64, info3, info4, info22, info26, info29, info45, info64, info50, aggT, J0, J1, J2, J3, J4, J5, J6, J7, J8, J9, J10, J11, J12, gv, dstAt, J13, J14, J15, J16, J17, J18, J19, J20, J21, J22, J23, J24, J25, J26, J27, J28, J29, J30, J31, J32, J33, J34, J35, J36, J37, J38, J39, J40, J41, J42, J43, J44, J45, J46, J47, J48, J49, J50, J51, J52, J53, J54, J55, J56, J57, J58, J59, aop, J60, J61, J62, evalsA, partsA, evalO, J63, J64, J65, J66, J67, J68, J69, J70, J71, updO, J72, ofArgs, J73, binV, intBin, J74, unV, J75, J76, mmV, builtinA, J77, J78, J79, J80, J81, J82, J83, J84, J85, J86, J87, J88, J89, Nat.reduceLT, Nat.reduceEqDiff, Nat.reduceAdd, Nat.reduceSub, Nat.reduceMul, reduceIte, J90, J91, J92, reduceCtorEq, J93, J94, J95, J96, J97, J98, J99, J100, t0, t1, t5]))
    refine W_block ?_
    refine W_loopI (fun m τ ds S' => Ext S S' ∧ ds = [] ∧ ∃ (i : Nat) (M : Nat → Nat → Int), m = n - i ∧ i ≤ n ∧ τ 0 = vl ∧ τ 1 = .int .i64 n ∧ τ 5 = v5 ∧ τ 7 = .int .i64 i ∧ Mine S' 26 1 S.n v5 (bs.map (rowv n)) n ∧ OwnR S' S.n n 3 bs M ∧ PlayedTo n i (i + 1) M) n ?_ ?_
    · refine ⟨hE, rfl, 0, _, by simp, by simp, ?_, ?_, ?_, ?_, hM, hR, ⟨fun _ => rfl, fun a b h1 h2 h3 => by omega⟩⟩ <;> first | rfl | simp only [und3, und4, und22, und26, und29, und45, und64, info3, info4, info22, info26, info29, info45, info64, info50, aggT, J0, J1, J2, J3, J4, J5, J6, J7, J8, J9, J10, J11, J12, gv, dstAt, J13, J14, J15, J16, J17, J18, J19, J20, J21, J22, J23, J24, J25, J26, J27, J28, J29, J30, J31, J32, J33, J34, J35, J36, J37, J38, J39, J40, J41, J42, J43, J44, J45, J46, J47, J48, J49, J50, J51, J52, J53, J54, J55, J56, J57, J58, J59, aop, J60, J61, J62, evalsA, partsA, evalO, J63, J64, J65, J66, J67, J68, J69, J70, J71, updO, J72, ofArgs, J73, binV, intBin, J74, unV, J75, J76, mmV, builtinA, J77, J78, J79, J80, J81, J82, J83, J84, J85, J86, J87, J88, J89, Nat.reduceLT, Nat.reduceEqDiff, Nat.reduceAdd, Nat.reduceSub, Nat.reduceMul, reduceIte, J90, J91, J92, reduceCtorEq, J93, J94, J95, J96, J97, J98, J99, J100, t0, t1, t5]
    · rintro m τ ds S' ⟨hE, rfl, i, M, rfl, hi, t0, t1, t5, t7, hM, hR, hP⟩
      by_cases hlt : i < n
      · have e1 : decide ((i : Int) < n) = true := by simpa using hlt
        have hw := wrap_succ (k := i) (by omega)
        (try simp only [und3, und4, und22, und26, und29, und45, und64, info3, info4, info22, info26, info29, info45, info64, info50, aggT, J0, J1, J2, J3, J4, J5, J6, J7, J8, J9, J10, J11, J12, gv, dstAt, J13, J14, J15, J16, J17, J18, J19, J20, J21, J22, J23, J24, J25, J26, J27, J28, J29, J30, J31, J32, J33, J34, J35, J36, J37, J38, J39, J40, J41, J42, J43, J44, J45, J46, J47, J48, J49, J50, J51, J52, J53, J54, J55, J56, J57, J58, J59, aop, J60, J61, J62, evalsA, partsA, evalO, J63, J64, J65, J66, J67, J68, J69, J70, J71, updO, J72, ofArgs, J73, binV, intBin, J74, unV, J75, J76, mmV, builtinA, J77, J78, J79, J80, J81, J82, J83, J84, J85, J86, J87, J88, J89, Nat.reduceLT, Nat.reduceEqDiff, Nat.reduceAdd, Nat.reduceSub, Nat.reduceMul, reduceIte, J90, J91, J92, reduceCtorEq, J93, J94, J95, J96, J97, J98, J99, J100, t0, t1, t5, t7, e1, hw]); repeat (first | with_reducible refine W_seq ?_ | with_reducible refine W_scope ?_ | ((first | with_reducible refine W_regionV hTT ?_ | with_reducible refine W_condV ?_ | with_reducible refine W_ret ?_ | with_reducible refine W_exit ?_ | with_reducible refine W_skip ?_ | with_reducible refine W_label ?_ | with_reducible refine W_drawV hTT (by kernel_rfl) ?_); try simp only [und3, und4, und22, und26, und29, und45, und64, info3, info4, info22, info26, info29, info45, info64, info50, aggT, J0, J1, J2, J3, J4, J5, J6, J7, J8, J9, J10, J11, J12, gv, dstAt, J13, J14, J15, J16, J17, J18, J19, J20, J21, J22, J23, J24, J25, J26, J27, J28, J29, J30, J31, J32, J33, J34, J35, J36, J37, J38, J39, J40, J41, J42, J43, J44, J45, J46, J47, J48, J49, J50, J51, J52, J53, J54, J55, J56, J57, J58, J59, aop, J60, J61, J62, evalsA, partsA, evalO, J63, J64, J65, J66, J67, J68, J69, J70, J71, updO, J72, ofArgs, J73, binV, intBin, J74, unV, J75, J76, mmV, builtinA, J77, J78, J79, J80, J81, J82, J83, J84, J85, J86, J87, J88, J89, Nat.reduceLT, Nat.reduceEqDiff, Nat.reduceAdd, Nat.reduceSub, Nat.reduceMul, reduceIte, J90, J91, J92, reduceCtorEq, J93, J94, J95, J96, J97, J98, J99, J100, t0, t1, t5, t7, e1, hw]))
        refine W_block ?_
        (try simp only [und3, und4, und22, und26, und29, und45, und64, info3, info4, info22, info26, info29, info45, info64, info50, aggT, J0, J1, J2, J3, J4, J5, J6, J7, J8, J9, J10, J11, J12, gv, dstAt, J13, J14, J15, J16, J17, J18, J19, J20, J21, J22, J23, J24, J25, J26, J27, J28, J29, J30, J31, J32, J33, J34, J35, J36, J37, J38, J39, J40, J41, J42, J43, J44, J45, J46, J47, J48, J49, J50, J51, J52, J53, J54, J55, J56, J57, J58, J59, aop, J60, J61, J62, evalsA, partsA, evalO, J63, J64, J65, J66, J67, J68, J69, J70, J71, updO, J72, ofArgs, J73, binV, intBin, J74, unV, J75, J76, mmV, builtinA, J77, J78, J79, J80, J81, J82, J83, J84, J85, J86, J87, J88, J89, Nat.reduceLT, Nat.reduceEqDiff, Nat.reduceAdd, Nat.reduceSub, Nat.reduceMul, reduceIte, J90, J91, J92, reduceCtorEq, J93, J94, J95, J96, J97, J98, J99, J100, t0, t1, t5, t7, hw]); repeat (first | with_reducible refine W_seq ?_ | with_reducible refine W_scope ?_ | ((first | with_reducible refine W_regionV hTT ?_ | with_reducible refine W_condV ?_ | with_reducible refine W_ret ?_ | with_reducible refine W_exit ?_ | with_reducible refine W_skip ?_ | with_reducible refine W_label ?_ | with_reducible refine W_drawV hTT (by kernel_rfl) ?_); try simp only [und3, und4, und22, und26, und29, und45, und64, info3, info4, info22, info26, info29, info45, info64, info50, aggT, J0, J1, J2, J3, J4, J5, J6, J7, J8, J9, J10, J11, J12, gv, dstAt, J13, J14, J15, J16, J17, J18, J19, J20, J21, J22, J23, J24, J25, J26, J27, J28, J29, J30, J31, J32, J33, J34, J35, J36, J37, J38, J39, J40, J41, J42, J43, J44, J45, J46, J47, J48, J49, J50, J51, J52, J53, J54, J55, J56, J57, J58, J59, aop, J60, J61, J62, evalsA, partsA, evalO, J63, J64, J65, J66, J67, J68, J69, J70, J71, updO, J72, ofArgs, J73, binV, intBin, J74, unV, J75, J76, mmV, builtinA, J77, J78, J79, J80, J81, J82, J83, J84, J85, J86, J87, J88, J89, Nat.reduceLT, Nat.reduceEqDiff, Nat.reduceAdd, Nat.reduceSub, Nat.reduceMul, reduceIte, J90, J91, J92, reduceCtorEq, J93, J94, J95, J96, J97, J98, J99, J100, t0, t1, t5, t7, hw]))
        refine W_block ?_
        refine W_loopI (fun m τ ds S' => Ext S S' ∧ ds = [] ∧ ∃ (j : Nat) (M : Nat → Nat → Int), m = n - j ∧ i < j ∧ j ≤ n ∧ τ 0 = vl ∧ τ 1 = .int .i64 n ∧ τ 5 = v5 ∧ τ 7 = .int .i64 i ∧ τ 8 = .int .i64 j ∧ Mine S' 26 1 S.n v5 (bs.map (rowv n)) n ∧ OwnR S' S.n n 3 bs M ∧ PlayedTo n i j M) (n - (i + 1)) ?_ ?_
        · refine ⟨hE, rfl, i + 1, M, rfl, by omega, by omega, ?_, ?_, ?_, ?_, ?_, hM, hR, hP⟩ <;> first | rfl | simp only [und3, und4, und22, und26, und29, und45, und64, info3, info4, info22, info26, info29, info45, info64, info50, aggT, J0, J1, J2, J3, J4, J5, J6, J7, J8, J9, J10, J11, J12, gv, dstAt, J13, J14, J15, J16, J17, J18, J19, J20, J21, J22, J23, J24, J25, J26, J27, J28, J29, J30, J31, J32, J33, J34, J35, J36, J37, J38, J39, J40, J41, J42, J43, J44, J45, J46, J47, J48, J49, J50, J51, J52, J53, J54, J55, J56, J57, J58, J59, aop, J60, J61, J62, evalsA, partsA, evalO, J63, J64, J65, J66, J67, J68, J69, J70, J71, updO, J72, ofArgs, J73, binV, intBin, J74, unV, J75, J76, mmV, builtinA, J77, J78, J79, J80, J81, J82, J83, J84, J85, J86, J87, J88, J89, Nat.reduceLT, Nat.reduceEqDiff, Nat.reduceAdd, Nat.reduceSub, Nat.reduceMul, reduceIte, J90, J91, J92, reduceCtorEq, J93, J94, J95, J96, J97, J98, J99, J100, t0, t1, t5, t7, hw]
        · rintro m τ ds S' ⟨hE, rfl, j, M, rfl, hij, hj, t0, t1, t5, t7, t8, hM, hR, hP⟩
          by_cases hjn : j < n
          · have e1 : decide ((j : Int) < n) = true := by simpa using hjn
            have hw := wrap_succ (k := j) (by omega)
            (try simp only [und3, und4, und22, und26, und29, und45, und64, info3, info4, info22, info26, info29, info45, info64, info50, aggT, J0, J1, J2, J3, J4, J5, J6, J7, J8, J9, J10, J11, J12, gv, dstAt, J13, J14, J15, J16, J17, J18, J19, J20, J21, J22, J23, J24, J25, J26, J27, J28, J29, J30, J31, J32, J33, J34, J35, J36, J37, J38, J39, J40, J41, J42, J43, J44, J45, J46, J47, J48, J49, J50, J51, J52, J53, J54, J55, J56, J57, J58, J59, aop, J60, J61, J62, evalsA, partsA, evalO, J63, J64, J65, J66, J67, J68, J69, J70, J71, updO, J72, ofArgs, J73, binV, intBin, J74, unV, J75, J76, mmV, builtinA, J77, J78, J79, J80, J81, J82, J83, J84, J85, J86, J87, J88, J89, Nat.reduceLT, Nat.reduceEqDiff, Nat.reduceAdd, Nat.reduceSub, Nat.reduceMul, reduceIte, J90, J91, J92, reduceCtorEq, J93, J94, J95, J96, J97, J98, J99, J100, t0, t1, t5, t7, t8, e1, hw]); repeat (first | with_reducible refine W_seq ?_ | with_reducible refine W_scope ?_ | ((first | with_reducible refine W_regionV hTT ?_ | with_reducible refine W_condV ?_ | with_reducible refine W_ret ?_ | with_reducible refine W_exit ?_ | with_reducible refine W_skip ?_ | with_reducible refine W_label ?_ | with_reducible refine W_drawV hTT (by kernel_rfl) ?_); try simp only [und3, und4, und22, und26, und29, und45, und64, info3, info4, info22, info26, info29, info45, info64, info50, aggT, J0, J1, J2, J3, J4, J5, J6, J7, J8, J9, J10, J11, J12, gv, dstAt, J13, J14, J15, J16, J17, J18, J19, J20, J21, J22, J23, J24, J25, J26, J27, J28, J29, J30, J31, J32, J33, J34, J35, J36, J37, J38, J39, J40, J41, J42, J43, J44, J45, J46, J47, J48, J49, J50, J51, J52, J53, J54, J55, J56, J57, J58, J59, aop, J60, J61, J62, evalsA, partsA, evalO, J63, J64, J65, J66, J67, J68, J69, J70, J71, updO, J72, ofArgs, J73, binV, intBin, J74, unV, J75, J76, mmV, builtinA, J77, J78, J79, J80, J81, J82, J83, J84, J85, J86, J87, J88, J89, Nat.reduceLT, Nat.reduceEqDiff, Nat.reduceAdd, Nat.reduceSub, Nat.reduceMul, reduceIte, J90, J91, J92, reduceCtorEq, J93, J94, J95, J96, J97, J98, J99, J100, t0, t1, t5, t7, t8, e1, hw]))
            refine W_block ?_
            with_reducible refine W_seq ?_
            with_reducible refine W_regionV hTT ?_
            simp only [und3, und4, und22, und26, und29, und45, und64, info3, info4, info22, info26, info29, info45, info64, info50, aggT, J0, J1, J2, J3, J4, J5, J6, J7, J8, J9, J10, J11, J12, gv, dstAt, J13, J14, J15, J16, J17, J18, J19, J20, J21, J22, J23, J24, J25, J26, J27, J28, J29, J30, J31, J32, J33, J34, J35, J36, J37, J38, J39, J40, J41, J42, J43, J44, J45, J46, J47, J48, J49, J50, J51, J52, J53, J54, J55, J56, J57, J58, J59, aop, J60, J61, J62, evalsA, partsA, evalO, J63, J64, J65, J66, J67, J68, J69, J70, J71, updO, J72, ofArgs, J73, binV, intBin, J74, unV, J75, J76, mmV, builtinA, J77, J78, J79, J80, J81, J82, J83, J84, J85, J86, J87, J88, J89, Nat.reduceLT, Nat.reduceEqDiff, Nat.reduceAdd, Nat.reduceSub, Nat.reduceMul, reduceIte, J90, J91, J92, reduceCtorEq, J93, J94, J95, J96, J97, J98, J99, J100, t0, t1, t5, t7, t8]
            with_reducible refine W_seq ?_
            refine W_cut (fun τ' ds' S'' => S'' = S' ∧ ds' = [] ∧ (∃ r : Nat, r < 2 ∧ τ' 9 = .int .i64 r) ∧ τ' 0 = vl ∧ τ' 1 = .int .i64 n ∧ τ' 5 = v5 ∧ τ' 7 = .int .i64 i ∧ τ' 8 = .int .i64 j) ?_ ?_
            · have hx' := hx.extd hE
              have hla := hx'.len (T := TT) und22
              by_cases hi1 : i < ls.length
              · have e2 : decide ((i : Int) < ls.length) = true := by simpa using hi1
                obtain ⟨p, rv, p1, p2, hrow, _⟩ := hx'.row (T := TT) (k := .i64) und22 info26 und26 rfl hi1
                have hlb := hrow.len (T := TT) und26
                by_cases hj1 : j < ls[i].length
                · have e3 : decide ((j : Int) < ls[i].length) = true := by simpa using hj1
                  obtain ⟨q, q1, q2, _⟩ := hrow.at1 (T := TT) (k := .i64) und26 info3 und3 rfl rfl hj1
                  rw [iv_get, List.getElem?_eq_getElem hj1] at q2
                  repeat (first | with_reducible refine W_seq ?_ | with_reducible refine W_block ?_ | with_reducible refine W_scope ?_ | ((first | with_reducible refine W_regionV hTT ?_ | with_reducible refine W_condV ?_ | with_reducible refine W_ret ?_ | with_reducible refine W_exit ?_ | with_reducible refine W_skip ?_ | with_reducible refine W_label ?_ | with_reducible refine W_drawV hTT (by kernel_rfl) ?_); try simp only [und3, und4, und22, und26, und29, und45, und64, info3, info4, info22, info26, info29, info45, info64, info50, aggT, J0, J1, J2, J3, J4, J5, J6, J7, J8, J9, J10, J11, J12, gv, dstAt, J13, J14, J15, J16, J17, J18, J19, J20, J21, J22, J23, J24, J25, J26, J27, J28, J29, J30, J31, J32, J33, J34, J35, J36, J37, J38, J39, J40, J41, J42, J43, J44, J45, J46, J47, J48, J49, J50, J51, J52, J53, J54, J55, J56, J57, J58, J59, aop, J60, J61, J62, evalsA, partsA, evalO, J63, J64, J65, J66, J67, J68, J69, J70, J71, updO, J72, ofArgs, J73, binV, intBin, J74, unV, J75, J76, mmV, builtinA, J77, J78, J79, J80, J81, J82, J83, J84, J85, J86, J87, J88, J89, Nat.reduceLT, Nat.reduceEqDiff, Nat.reduceAdd, Nat.reduceSub, Nat.reduceMul, reduceIte, J90, J91, J92, reduceCtorEq, J93, J94, J95, J96, J97, J98, J99, J100, t0, t1, t5, t7, t8, hla, e2, p1, p2, hlb, e3, q1, q2]))
                  refine VCall_intro (mod_call _ _ (n := 2) (by omega) (by omega)) ?_
                  rintro v S3 ⟨⟨r, hr, rfl⟩, rfl⟩
                  (try simp only [und3, und4, und22, und26, und29, und45, und64, info3, info4, info22, info26, info29, info45, info64, info50, aggT, J0, J1, J2, J3, J4, J5, J6, J7, J8, J9, J10, J11, J12, gv, dstAt, J13, J14, J15, J16, J17, J18, J19, J20, J21, J22, J23, J24, J25, J26, J27, J28, J29, J30, J31, J32, J33, J34, J35, J36, J37, J38, J39, J40, J41, J42, J43, J44, J45, J46, J47, J48, J49, J50, J51, J52, J53, J54, J55, J56, J57, J58, J59, aop, J60, J61, J62, evalsA, partsA, evalO, J63, J64, J65, J66, J67, J68, J69, J70, J71, updO, J72, ofArgs, J73, binV, intBin, J74, unV, J75, J76, mmV, builtinA, J77, J78, J79, J80, J81, J82, J83, J84, J85, J86, J87, J88, J89, Nat.reduceLT, Nat.reduceEqDiff, Nat.reduceAdd, Nat.reduceSub, Nat.reduceMul, reduceIte, J90, J91, J92, reduceCtorEq, J93, J94, J95, J96, J97, J98, J99, J100, t0, t1, t5, t7, t8]); repeat (first | with_reducible refine W_seq ?_ | with_reducible refine W_block ?_ | with_reducible refine W_scope ?_ | ((first | with_reducible refine W_regionV hTT ?_ | with_reducible refine W_condV ?_ | with_reducible refine W_ret ?_ | with_reducible refine W_exit ?_ | with_reducible refine W_skip ?_ | with_reducible refine W_label ?_ | with_reducible refine W_drawV hTT (by kernel_rfl) ?_); try simp only [und3, und4, und22, und26, und29, und45, und64, info3, info4, info22, info26, info29, info45, info64, info50, aggT, J0, J1, J2, J3, J4, J5, J6, J7, J8, J9, J10, J11, J12, gv, dstAt, J13, J14, J15, J16, J17, J18, J19, J20, J21, J22, J23, J24, J25, J26, J27, J28, J29, J30, J31, J32, J33, J34, J35, J36, J37, J38, J39, J40, J41, J42, J43, J44, J45, J46, J47, J48, J49, J50, J51, J52, J53, J54, J55, J56, J57, J58, J59, aop, J60, J61, J62, evalsA, partsA, evalO, J63, J64, J65, J66, J67, J68, J69, J70, J71, updO, J72, ofArgs, J73, binV, intBin, J74, unV, J75, J76, mmV, builtinA, J77, J78, J79, J80, J81, J82, J83, J84, J85, J86, J87, J88, J89, Nat.reduceLT, Nat.reduceEqDiff, Nat.reduceAdd, Nat.reduceSub, Nat.reduceMul, reduceIte, J90, J91, J92, reduceCtorEq, J93, J94, J95, J96, J97, J98, J99, J100, t0, t1, t5, t7, t8]))
                  refine NQ_intro ⟨rfl, rfl, ⟨r, hr, by simp only [und3, und4, und22, und26, und29, und45, und64, info3, info4, info22, info26, info29, info45, info64, info50, aggT, J0, J1, J2, J3, J4, J5, J6, J7, J8, J9, J10, J11, J12, gv, dstAt, J13, J14, J15, J16, J17, J18, J19, J20, J21, J22, J23, J24, J25, J26, J27, J28, J29, J30, J31, J32, J33, J34, J35, J36, J37, J38, J39, J40, J41, J42, J43, J44, J45, J46, J47, J48, J49, J50, J51, J52, J53, J54, J55, J56, J57, J58, J59, aop, J60, J61, J62, evalsA, partsA, evalO, J63, J64, J65, J66, J67, J68, J69, J70, J71, updO, J72, ofArgs, J73, binV, intBin, J74, unV, J75, J76, mmV, builtinA, J77, J78, J79, J80, J81, J82, J83, J84, J85, J86, J87, J88, J89, Nat.reduceLT, Nat.reduceEqDiff, Nat.reduceAdd, Nat.reduceSub, Nat.reduceMul, reduceIte, J90, J91, J92, reduceCtorEq, J93, J94, J95, J96, J97, J98, J99, J100]⟩, by simp only [und3, und4, und22, und26, und29, und45, und64, info3, info4, info22, info26, info29, info45, info64, info50, aggT, J0, J1, J2, J3, J4, J5, J6, J7, J8, J9, J10, J11, J12, gv, dstAt, J13, J14, J15, J16, J17, J18, J19, J20, J21, J22, J23, J24, J25, J26, J27, J28, J29, J30, J31, J32, J33, J34, J35, J36, J37, J38, J39, J40, J41, J42, J43, J44, J45, J46, J47, J48, J49, J50, J51, J52, J53, J54, J55, J56, J57, J58, J59, aop, J60, J61, J62, evalsA, partsA, evalO, J63, J64, J65, J66, J67, J68, J69, J70, J71, updO, J72, ofArgs, J73, binV, intBin, J74, unV, J75, J76, mmV, builtinA, J77, J78, J79, J80, J81, J82, J83, J84, J85, J86, J87, J88, J89, Nat.reduceLT, Nat.reduceEqDiff, Nat.reduceAdd, Nat.reduceSub, Nat.reduceMul, reduceIte, J90, J91, J92, reduceCtorEq, J93, J94, J95, J96, J97, J98, J99, J100, t0], by simp only [und3, und4, und22, und26, und29, und45, und64, info3, info4, info22, info26, info29, info45, info64, info50, aggT, J0, J1, J2, J3, J4, J5, J6, J7, J8, J9, J10, J11, J12, gv, dstAt, J13, J14, J15, J16, J17, J18, J19, J20, J21, J22, J23, J24, J25, J26, J27, J28, J29, J30, J31, J32, J33, J34, J35, J36, J37, J38, J39, J40, J41, J42, J43, J44, J45, J46, J47, J48, J49, J50, J51, J52, J53, J54, J55, J56, J57, J58, J59, aop, J60, J61, J62, evalsA, partsA, evalO, J63, J64, J65, J66, J67, J68, J69, J70, J71, updO, J72, ofArgs, J73, binV, intBin, J74, unV, J75, J76, mmV, builtinA, J77, J78, J79, J80, J81, J82, J83, J84, J85, J86, J87, J88, J89, Nat.reduceLT, Nat.reduceEqDiff, Nat.reduceAdd, Nat.reduceSub, Nat.reduceMul, reduceIte, J90, J91, J92, reduceCtorEq, J93, J94, J95, J96, J97, J98, J99, J100, t1], by simp only [und3, und4, und22, und26, und29, und45, und64, info3, info4, info22, info26, info29, info45, info64, info50, aggT, J0, J1, J2, J3, J4, J5, J6, J7, J8, J9, J10, J11, J12, gv, dstAt, J13, J14, J15, J16, J17, J18, J19, J20, J21, J22, J23, J24, J25, J26, J27, J28, J29, J30, J31, J32, J33, J34, J35, J36, J37, J38, J39, J40, J41, J42, J43, J44, J45, J46, J47, J48, J49, J50, J51, J52, J53, J54, J55, J56, J57, J58, J59, aop, J60, J61, J62, evalsA, partsA, evalO, J63, J64, J65, J66, J67, J68, J69, J70, J71, updO, J72, ofArgs, J73, binV, intBin, J74, unV, J75, J76, mmV, builtinA, J77, J78, J79, J80, J81, J82, J83, J84, J85, J86, J87, J88, J89, Nat.reduceLT, Nat.reduceEqDiff, Nat.reduceAdd, Nat.reduceSub, Nat.reduceMul, reduceIte, J90, J91, J92, reduceCtorEq, J93, J94, J95, J96, J97, J98, J99, J100, t5], by simp only [und3, und4, und22, und26, und29, und45, und64, info3, info4, info22, info26, info29, info45, info64, info50, aggT, J0, J1, J2, J3, J4, J5, J6, J7, J8, J9, J10, J11, J12, gv, dstAt, J13, J14, J15, J16, J17, J18, J19, J20, J21, J22, J23, J24, J25, J26, J27, J28, J29, J30, J31, J32, J33, J34, J35, J36, J37, J38, J39, J40, J41, J42, J43, J44, J45, J46, J47, J48, J49, J50, J51, J52, J53, J54, J55, J56, J57, J58, J59, aop, J60, J61, J62, evalsA, partsA, evalO, J63, J64, J65, J66, J67, J68, J69, J70, J71, updO, J72, ofArgs, J73, binV, intBin, J74, unV, J75, J76, mmV, builtinA, J77, J78, J79, J80, J81, J82, J83, J84, J85, J86, J87, J88, J89, Nat.reduceLT, Nat.reduceEqDiff, Nat.reduceAdd, Nat.reduceSub, Nat.reduceMul, reduceIte, J90, J91, J92, reduceCtorEq, J93, J94, J95, J96, J97, J98, J99, J100, t7], by simp only [und3, und4, und22, und26, und29, und45, und64, info3, info4, info22, info26, info29, info45, info64, info50, aggT, J0, J1, J2, J3, J4, J5, J6, J7, J8, J9, J10, J11, J12, gv, dstAt, J13, J14, J15, J16, J17, J18, J19, J20, J21, J22, J23, J24, J25, J26, J27, J28, J29, J30, J31, J32, J33, J34, J35, J36, J37, J38, J39, J40, J41, J42, J43, J44, J45, J46, J47, J48, J49, J50, J51, J52, J53, J54, J55, J56, J57, J58, J59, aop, J60, J61, J62, evalsA, partsA, evalO, J63, J64, J65, J66, J67, J68, J69, J70, J71, updO, J72, ofArgs, J73, binV, intBin, J74, unV, J75, J76, mmV, builtinA, J77, J78, J79, J80, J81, J82, J83, J84, J85, J86, J87, J88, J89, Nat.reduceLT, Nat.reduceEqDiff, Nat.reduceAdd, Nat.reduceSub, Nat.reduceMul, reduceIte, J90, J91, J92, reduceCtorEq, J93, J94, J95, J96, J97, J98, J99, J100, t8]⟩
                · have e3 : decide ((j : Int) < ls[i].length) = false := by simpa using hj1
                  repeat (first | with_reducible refine W_seq ?_ | with_reducible refine W_block ?_ | with_reducible refine W_scope ?_ | ((first | with_reducible refine W_regionV hTT ?_ | with_reducible refine W_condV ?_ | with_reducible refine W_ret ?_ | with_reducible refine W_exit ?_ | with_reducible refine W_skip ?_ | with_reducible refine W_label ?_ | with_reducible refine W_drawV hTT (by kernel_rfl) ?_); try simp only [und3, und4, und22, und26, und29, und45, und64, info3, info4, info22, info26, info29, info45, info64, info50, aggT, J0, J1, J2, J3, J4, J5, J6, J7, J8, J9, J10, J11, J12, gv, dstAt, J13, J14, J15, J16, J17, J18, J19, J20, J21, J22, J23, J24, J25, J26, J27, J28, J29, J30, J31, J32, J33, J34, J35, J36, J37, J38, J39, J40, J41, J42, J43, J44, J45, J46, J47, J48, J49, J50, J51, J52, J53, J54, J55, J56, J57, J58, J59, aop, J60, J61, J62, evalsA, partsA, evalO, J63, J64, J65, J66, J67, J68, J69, J70, J71, updO, J72, ofArgs, J73, binV, intBin, J74, unV, J75, J76, mmV, builtinA, J77, J78, J79, J80, J81, J82, J83, J84, J85, J86, J87, J88, J89, Nat.reduceLT, Nat.reduceEqDiff, Nat.reduceAdd, Nat.reduceSub, Nat.reduceMul, reduceIte, J90, J91, J92, reduceCtorEq, J93, J94, J95, J96, J97, J98, J99, J100, t0, t1, t5, t7, t8, hla, e2, p1, p2, hlb, e3]))
                  refine NQ_intro ⟨rfl, rfl, ⟨1, by omega, by simp only [und3, und4, und22, und26, und29, und45, und64, info3, info4, info22, info26, info29, info45, info64, info50, aggT, J0, J1, J2, J3, J4, J5, J6, J7, J8, J9, J10, J11, J12, gv, dstAt, J13, J14, J15, J16, J17, J18, J19, J20, J21, J22, J23, J24, J25, J26, J27, J28, J29, J30, J31, J32, J33, J34, J35, J36, J37, J38, J39, J40, J41, J42, J43, J44, J45, J46, J47, J48, J49, J50, J51, J52, J53, J54, J55, J56, J57, J58, J59, aop, J60, J61, J62, evalsA, partsA, evalO, J63, J64, J65, J66, J67, J68, J69, J70, J71, updO, J72, ofArgs, J73, binV, intBin, J74, unV, J75, J76, mmV, builtinA, J77, J78, J79, J80, J81, J82, J83, J84, J85, J86, J87, J88, J89, Nat.reduceLT, Nat.reduceEqDiff, Nat.reduceAdd, Nat.reduceSub, Nat.reduceMul, reduceIte, J90, J91, J92, reduceCtorEq, J93, J94, J95, J96, J97, J98, J99, J100]; rfl⟩, by simp only [und3, und4, und22, und26, und29, und45, und64, info3, info4, info22, info26, info29, info45, info64, info50, aggT, J0, J1, J2, J3, J4, J5, J6, J7, J8, J9, J10, J11, J12, gv, dstAt, J13, J14, J15, J16, J17, J18, J19, J20, J21, J22, J23, J24, J25, J26, J27, J28, J29, J30, J31, J32, J33, J34, J35, J36, J37, J38, J39, J40, J41, J42, J43, J44, J45, J46, J47, J48, J49, J50, J51, J52, J53, J54, J55, J56, J57, J58, J59, aop, J60, J61, J62, evalsA, partsA, evalO, J63, J64, J65, J66, J67, J68, J69, J70, J71, updO, J72, ofArgs, J73, binV, intBin, J74, unV, J75, J76, mmV, builtinA, J77, J78, J79, J80, J81, J82, J83, J84, J85, J86, J87, J88, J89, Nat.reduceLT, Nat.reduceEqDiff, Nat.reduceAdd, Nat.reduceSub, Nat.reduceMul, reduceIte, J90, J91, J92, reduceCtorEq, J93, J94, J95, J96, J97, J98, J99, J100, t0], by simp only [und3, und4, und22, und26, und29, und45, und64, info3, info4, info22, info26, info29, info45, info64, info50, aggT, J0, J1, J2, J3, J4, J5, J6, J7, J8, J9, J10, J11, J12, gv, dstAt, J13, J14, J15, J16, J17, J18, J19, J20, J21, J22, J23, J24, J25, J26, J27, J28, J29, J30, J31, J32, J33, J34, J35, J36, J37, J38, J39, J40, J41, J42, J43, J44, J45, J46, J47, J48, J49, J50, J51, J52, J53, J54, J55, J56, J57, J58, J59, aop, J60, J61, J62, evalsA, partsA, evalO, J63, J64, J65, J66, J67, J68, J69, J70, J71, updO, J72, ofArgs, J73, binV, intBin, J74, unV, J75, J76, mmV, builtinA, J77, J78, J79, J80, J81, J82, J83, J84, J85, J86, J87, J88, J89, Nat.reduceLT, Nat.reduceEqDiff, Nat.reduceAdd, Nat.reduceSub, Nat.reduceMul, reduceIte, J90, J91, J92, reduceCtorEq, J93, J94, J95, J96, J97, J98, J99, J100, t1], by simp only [und3, und4, und22, und26, und29, und45, und64, info3, info4, info22, info26, info29, info45, info64, info50, aggT, J0, J1, J2, J3, J4, J5, J6, J7, J8, J9, J10, J11, J12, gv, dstAt, J13, J14, J15, J16, J17, J18, J19, J20, J21, J22, J23, J24, J25, J26, J27, J28, J29, J30, J31, J32, J33, J34, J35, J36, J37, J38, J39, J40, J41, J42, J43, J44, J45, J46, J47, J48, J49, J50, J51, J52, J53, J54, J55, J56, J57, J58, J59, aop, J60, J61, J62, evalsA, partsA, evalO, J63, J64, J65, J66, J67, J68, J69, J70, J71, updO, J72, ofArgs, J73, binV, intBin, J74, unV, J75, J76, mmV, builtinA, J77, J78, J79, J80, J81, J82, J83, J84, J85, J86, J87, J88, J89, Nat.reduceLT, Nat.reduceEqDiff, Nat.reduceAdd, Nat.reduceSub, Nat.reduceMul, reduceIte, J90, J91, J92, reduceCtorEq, J93, J94, J95, J96, J97, J98, J99, J100, t5], by simp only [und3, und4, und22, und26, und29, und45, und64, info3, info4, info22, info26, info29, info45, info64, info50, aggT, J0, J1, J2, J3, J4, J5, J6, J7, J8, J9, J10, J11, J12, gv, dstAt, J13, J14, J15, J16, J17, J18, J19, J20, J21, J22, J23, J24, J25, J26, J27, J28, J29, J30, J31, J32, J33, J34, J35, J36, J37, J38, J39, J40, J41, J42, J43, J44, J45, J46, J47, J48, J49, J50, J51, J52, J53, J54, J55, J56, J57, J58, J59, aop, J60, J61, J62, evalsA, partsA, evalO, J63, J64, J65, J66, J67, J68, J69, J70, J71, updO, J72, ofArgs, J73, binV, intBin, J74, unV, J75, J76, mmV, builtinA, J77, J78, J79, J80, J81, J82, J83, J84, J85, J86, J87, J88, J89, Nat.reduceLT, Nat.reduceEqDiff, Nat.reduceAdd, Nat.reduceSub, Nat.reduceMul, reduceIte, J90, J91, J92, reduceCtorEq, J93, J94, J95, J96, J97, J98, J99, J100, t7], by simp only [und3, und4, und22, und26, und29, und45, und64, info3, info4, info22, info26, info29, info45, info64, info50, aggT, J0, J1, J2, J3, J4, J5, J6, J7, J8, J9, J10, J11, J12, gv, dstAt, J13, J14, J15, J16, J17, J18, J19, J20, J21, J22, J23, J24, J25, J26, J27, J28, J29, J30, J31, J32, J33, J34, J35, J36, J37, J38, J39, J40, J41, J42, J43, J44, J45, J46, J47, J48, J49, J50, J51, J52, J53, J54, J55, J56, J57, J58, J59, aop, J60, J61, J62, evalsA, partsA, evalO, J63, J64, J65, J66, J67, J68, J69, J70, J71, updO, J72, ofArgs, J73, binV, intBin, J74, unV, J75, J76, mmV, builtinA, J77, J78, J79, J80, J81, J82, J83, J84, J85, J86, J87, J88, J89, Nat.reduceLT, Nat.reduceEqDiff, Nat.reduceAdd, Nat.reduceSub, Nat.reduceMul, reduceIte, J90, J91, J92, reduceCtorEq, J93, J94, J95, J96, J97, J98, J99, J100, t8]⟩
              · have e2 : decide ((i : Int) < ls.length) = false := by simpa using hi1
                repeat (first | with_reducible refine W_seq ?_ | with_reducible refine W_block ?_ | with_reducible refine W_scope ?_ | ((first | with_reducible refine W_regionV hTT ?_ | with_reducible refine W_condV ?_ | with_reducible refine W_ret ?_ | with_reducible refine W_exit ?_ | with_reducible refine W_skip ?_ | with_reducible refine W_label ?_ | with_reducible refine W_drawV hTT (by kernel_rfl) ?_); try simp only [und3, und4, und22, und26, und29, und45, und64, info3, info4, info22, info26, info29, info45, info64, info50, aggT, J0, J1, J2, J3, J4, J5, J6, J7, J8, J9, J10, J11, J12, gv, dstAt, J13, J14, J15, J16, J17, J18, J19, J20, J21, J22, J23, J24, J25, J26, J27, J28, J29, J30, J31, J32, J33, J34, J35, J36, J37, J38, J39, J40, J41, J42, J43, J44, J45, J46, J47, J48, J49, J50, J51, J52, J53, J54, J55, J56, J57, J58, J59, aop, J60, J61, J62, evalsA, partsA, evalO, J63, J64, J65, J66, J67, J68, J69, J70, J71, updO, J72, ofArgs, J73, binV, intBin, J74, unV, J75, J76, mmV, builtinA, J77, J78, J79, J80, J81, J82, J83, J84, J85, J86, J87, J88, J89, Nat.reduceLT, Nat.reduceEqDiff, Nat.reduceAdd, Nat.reduceSub, Nat.reduceMul, reduceIte, J90, J91, J92, reduceCtorEq, J93, J94, J95, J96, J97, J98, J99, J100, t0, t1, t5, t7, t8, hla, e2]))
                refine NQ_intro ⟨rfl, rfl, ⟨1, by omega, by simp only [und3, und4, und22, und26, und29, und45, und64, info3, info4, info22, info26, info29, info45, info64, info50, aggT, J0, J1, J2, J3, J4, J5, J6, J7, J8, J9, J10, J11, J12, gv, dstAt, J13, J14, J15, J16, J17, J18, J19, J20, J21, J22, J23, J24, J25, J26, J27, J28, J29, J30, J31, J32, J33, J34, J35, J36, J37, J38, J39, J40, J41, J42, J43, J44, J45, J46, J47, J48, J49, J50, J51, J52, J53, J54, J55, J56, J57, J58, J59, aop, J60, J61, J62, evalsA, partsA, evalO, J63, J64, J65, J66, J67, J68, J69, J70, J71, updO, J72, ofArgs, J73, binV, intBin, J74, unV, J75, J76, mmV, builtinA, J77, J78, J79, J80, J81, J82, J83, J84, J85, J86, J87, J88, J89, Nat.reduceLT, Nat.reduceEqDiff, Nat.reduceAdd, Nat.reduceSub, Nat.reduceMul, reduceIte, J90, J91, J92, reduceCtorEq, J93, J94, J95, J96, J97, J98, J99, J100]; rfl⟩, by simp only [und3, und4, und22, und26, und29, und45, und64, info3, info4, info22, info26, info29, info45, info64, info50, aggT, J0, J1, J2, J3, J4, J5, J6, J7, J8, J9, J10, J11, J12, gv, dstAt, J13, J14, J15, J16, J17, J18, J19, J20, J21, J22, J23, J24, J25, J26, J27, J28, J29, J30, J31, J32, J33, J34, J35, J36, J37, J38, J39, J40, J41, J42, J43, J44, J45, J46, J47, J48, J49, J50, J51, J52, J53, J54, J55, J56, J57, J58, J59, aop, J60, J61, J62, evalsA, partsA, evalO, J63, J64, J65, J66, J67, J68, J69, J70, J71, updO, J72, ofArgs, J73, binV, intBin, J74, unV, J75, J76, mmV, builtinA, J77, J78, J79, J80, J81, J82, J83, J84, J85, J86, J87, J88, J89, Nat.reduceLT, Nat.reduceEqDiff, Nat.reduceAdd, Nat.reduceSub, Nat.reduceMul, reduceIte, J90, J91, J92, reduceCtorEq, J93, J94, J95, J96, J97, J98, J99, J100, t0], by simp only [und3, und4, und22, und26, und29, und45, und64, info3, info4, info22, info26, info29, info45, info64, info50, aggT, J0, J1, J2, J3, J4, J5, J6, J7, J8, J9, J10, J11, J12, gv, dstAt, J13, J14, J15, J16, J17, J18, J19, J20, J21, J22, J23, J24, J25, J26, J27, J28, J29, J30, J31, J32, J33, J34, J35, J36, J37, J38, J39, J40, J41, J42, J43, J44, J45, J46, J47, J48, J49, J50, J51, J52, J53, J54, J55, J56, J57, J58, J59, aop, J60, J61, J62, evalsA, partsA, evalO, J63, J64, J65, J66, J67, J68, J69, J70, J71, updO, J72, ofArgs, J73, binV, intBin, J74, unV, J75, J76, mmV, builtinA, J77, J78, J79, J80, J81, J82, J83, J84, J85, J86, J87, J88, J89, Nat.reduceLT, Nat.reduceEqDiff, Nat.reduceAdd, Nat.reduceSub, Nat.reduceMul, reduceIte, J90, J91, J92, reduceCtorEq, J93, J94, J95, J96, J97, J98, J99, J100, t1], by simp only [und3, und4, und22, und26, und29, und45, und64, info3, info4, info22, info26, info29, info45, info64, info50, aggT, J0, J1, J2, J3, J4, J5, J6, J7, J8, J9, J10, J11, J12, gv, dstAt, J13, J14, J15, J16, J17, J18, J19, J20, J21, J22, J23, J24, J25, J26, J27, J28, J29, J30, J31, J32, J33, J34, J35, J36, J37, J38, J39, J40, J41, J42, J43, J44, J45, J46, J47, J48, J49, J50, J51, J52, J53, J54, J55, J56, J57, J58, J59, aop, J60, J61, J62, evalsA, partsA, evalO, J63, J64, J65, J66, J67, J68, J69, J70, J71, updO, J72, ofArgs, J73, binV, intBin, J74, unV, J75, J76, mmV, builtinA, J77, J78, J79, J80, J81, J82, J83, J84, J85, J86, J87, J88, J89, Nat.reduceLT, Nat.reduceEqDiff, Nat.reduceAdd, Nat.reduceSub, Nat.reduceMul, reduceIte, J90, J91, J92, reduceCtorEq, J93, J94, J95, J96, J97, J98, J99, J100, t5], by simp only [und3, und4, und22, und26, und29, und45, und64, info3, info4, info22, info26, info29, info45, info64, info50, aggT, J0, J1, J2, J3, J4, J5, J6, J7, J8, J9, J10, J11, J12, gv, dstAt, J13, J14, J15, J16, J17, J18, J19, J20, J21, J22, J23, J24, J25, J26, J27, J28, J29, J30, J31, J32, J33, J34, J35, J36, J37, J38, J39, J40, J41, J42, J43, J44, J45, J46, J47, J48, J49, J50, J51, J52, J53, J54, J55, J56, J57, J58, J59, aop, J60, J61, J62, evalsA, partsA, evalO, J63, J64, J65, J66, J67, J68, J69, J70, J71, updO, J72, ofArgs, J73, binV, intBin, J74, unV, J75, J76, mmV, builtinA, J77, J78, J79, J80, J81, J82, J83, J84, J85, J86, J87, J88, J89, Nat.reduceLT, Nat.reduceEqDiff, Nat.reduceAdd, Nat.reduceSub, Nat.reduceMul, reduceIte, J90, J91, J92, reduceCtorEq, J93, J94, J95, J96, J97, J98, J99, J100, t7], by simp only [und3, und4, und22, und26, und29, und45, und64, info3, info4, info22, info26, info29, info45, info64, info50, aggT, J0, J1, J2, J3, J4, J5, J6, J7, J8, J9, J10, J11, J12, gv, dstAt, J13, J14, J15, J16, J17, J18, J19, J20, J21, J22, J23, J24, J25, J26, J27, J28, J29, J30, J31, J32, J33, J34, J35, J36, J37, J38, J39, J40, J41, J42, J43, J44, J45, J46, J47, J48, J49, J50, J51, J52, J53, J54, J55, J56, J57, J58, J59, aop, J60, J61, J62, evalsA, partsA, evalO, J63, J64, J65, J66, J67, J68, J69, J70, J71, updO, J72, ofArgs, J73, binV, intBin, J74, unV, J75, J76, mmV, builtinA, J77, J78, J79, J80, J81, J82, J83, J84, J85, J86, J87, J88, J89, Nat.reduceLT, Nat.reduceEqDiff, Nat.reduceAdd, Nat.reduceSub, Nat.reduceMul, reduceIte, J90, J91, J92, reduceCtorEq, J93, J94, J95, J96, J97, J98, J99, J100, t8]⟩
            · rintro τ' ds' S2 ⟨rfl, rfl, ⟨r, hr, t9⟩, t0, t1, t5, t7, t8⟩
              have ib : i < bs.length := by omega
              have jb : j < bs.length := by omega
              obtain ⟨p, p1, p2⟩ := rows_at (T := TT) (k := .i64) hM.sl hbs und22 info26 und26 rfl ib
              obtain ⟨q, q1, q2⟩ := rows_at (T := TT) (k := .i64) hM.sl hbs und22 info26 und26 rfl jb
              have a1 : indexAddrA TT 26 (.int .i64 j) (rowv n bs[i]) = some (.pointer (some ⟨bs[i], j, none⟩)) := arr_index und26 info3 rfl hjn
              have a2 : indexAddrA TT 26 (.int .i64 i) (rowv n bs[j]) = some (.pointer (some ⟨bs[j], i, none⟩)) := arr_index und26 info3 rfl hlt
              obtain ⟨s1, hR1⟩ := hR.store (T := TT) hE.ok info3 ib hjn r
              have g1 := lt_of_get (hR.get i ib)
              have hE1 := hE.set (.cells (iv (mrow n (setM M i j r i))) 3 0) (hR.lo i ib) g1
              have hM1 : Mine (S2.set bs[i] (.cells (iv (mrow n (setM M i j r i))) 3 0)) 26 1 S.n v5 (bs.map (rowv n)) n := hM.same fun b hb => get_set_ne _ g1 fun e => by
                subst e
                rcases hM with ⟨rfl, _⟩ | ⟨b1, rfl, _, h2, _⟩
                · cases hb
                · cases hb
                  rw [hR.get i ib] at h2
                  simp at h2
              obtain ⟨s2, hR2⟩ := hR1.store (T := TT) hE1.ok info3 jb hlt (1 - r)
              have g2 := lt_of_get (hR1.get j jb)
              have hE2 := hE1.set (.cells (iv (mrow n (setM (setM M i j r) j i (1 - r) j))) 3 0) (hR.lo j jb) g2
              have hM2 := hM1.same (S' := (S2.set bs[i] (.cells (iv (mrow n (setM M i j r i))) 3 0)).set bs[j] (.cells (iv (mrow n (setM (setM M i j r) j i (1 - r) j))) 3 0)) fun b hb => get_set_ne _ g2 fun e => by
                subst e
                rcases hM1 with ⟨rfl, _⟩ | ⟨b1, rfl, _, h2, _⟩
                · cases hb
                · cases hb
                  rw [hR1.get j jb] at h2
                  simp at h2
              have hw1 : IntKind.i64.wrap (1 - (r : Int)) = 1 - r := wrap_id (by omega) (by omega)
              (try simp only [und3, und4, und22, und26, und29, und45, und64, info3, info4, info22, info26, info29, info45, info64, info50, aggT, J0, J1, J2, J3, J4, J5, J6, J7, J8, J9, J10, J11, J12, gv, dstAt, J13, J14, J15, J16, J17, J18, J19, J20, J21, J22, J23, J24, J25, J26, J27, J28, J29, J30, J31, J32, J33, J34, J35, J36, J37, J38, J39, J40, J41, J42, J43, J44, J45, J46, J47, J48, J49, J50, J51, J52, J53, J54, J55, J56, J57, J58, J59, aop, J60, J61, J62, evalsA, partsA, evalO, J63, J64, J65, J66, J67, J68, J69, J70, J71, updO, J72, ofArgs, J73, binV, intBin, J74, unV, J75, J76, mmV, builtinA, J77, J78, J79, J80, J81, J82, J83, J84, J85, J86, J87, J88, J89, Nat.reduceLT, Nat.reduceEqDiff, Nat.reduceAdd, Nat.reduceSub, Nat.reduceMul, reduceIte, J90, J91, J92, reduceCtorEq, J93, J94, J95, J96, J97, J98, J99, J100, t0, t1, t5, t7, t8, t9, p1, p2, q1, q2, a1, a2, s1, s2, hw1, hw]); repeat (first | with_reducible refine W_seq ?_ | with_reducible refine W_block ?_ | with_reducible refine W_scope ?_ | ((first | with_reducible refine W_regionV hTT ?_ | with_reducible refine W_condV ?_ | with_reducible refine W_ret ?_ | with_reducible refine W_exit ?_ | with_reducible refine W_skip ?_ | with_reducible refine W_label ?_ | with_reducible refine W_drawV hTT (by kernel_rfl) ?_); try simp only [und3, und4, und22, und26, und29, und45, und64, info3, info4, info22, info26, info29, info45, info64, info50, aggT, J0, J1, J2, J3, J4, J5, J6, J7, J8, J9, J10, J11, J12, gv, dstAt, J13, J14, J15, J16, J17, J18, J19, J20, J21, J22, J23, J24, J25, J26, J27, J28, J29, J30, J31, J32, J33, J34, J35, J36, J37, J38, J39, J40, J41, J42, J43, J44, J45, J46, J47, J48, J49, J50, J51, J52, J53, J54, J55, J56, J57, J58, J59, aop, J60, J61, J62, evalsA, partsA, evalO, J63, J64, J65, J66, J67, J68, J69, J70, J71, updO, J72, ofArgs, J73, binV, intBin, J74, unV, J75, J76, mmV, builtinA, J77, J78, J79, J80, J81, J82, J83, J84, J85, J86, J87, J88, J89, Nat.reduceLT, Nat.reduceEqDiff, Nat.reduceAdd, Nat.reduceSub, Nat.reduceMul, reduceIte, J90, J91, J92, reduceCtorEq, J93, J94, J95, J96, J97, J98, J99, J100, t0, t1, t5, t7, t8, t9, p1, p2, q1, q2, a1, a2, s1, s2, hw1, hw]))
              refine LoopQ_intro (n - (j + 1)) (by omega) ⟨hE2, rfl, j + 1, _, rfl, by omega, by omega, by simp only [und3, und4, und22, und26, und29, und45, und64, info3, info4, info22, info26, info29, info45, info64, info50, aggT, J0, J1, J2, J3, J4, J5, J6, J7, J8, J9, J10, J11, J12, gv, dstAt, J13, J14, J15, J16, J17, J18, J19, J20, J21, J22, J23, J24, J25, J26, J27, J28, J29, J30, J31, J32, J33, J34, J35, J36, J37, J38, J39, J40, J41, J42, J43, J44, J45, J46, J47, J48, J49, J50, J51, J52, J53, J54, J55, J56, J57, J58, J59, aop, J60, J61, J62, evalsA, partsA, evalO, J63, J64, J65, J66, J67, J68, J69, J70, J71, updO, J72, ofArgs, J73, binV, intBin, J74, unV, J75, J76, mmV, builtinA, J77, J78, J79, J80, J81, J82, J83, J84, J85, J86, J87, J88, J89, Nat.reduceLT, Nat.reduceEqDiff, Nat.reduceAdd, Nat.reduceSub, Nat.reduceMul, reduceIte, J90, J91, J92, reduceCtorEq, J93, J94, J95, J96, J97, J98, J99, J100, t0], by simp only [und3, und4, und22, und26, und29, und45, und64, info3, info4, info22, info26, info29, info45, info64, info50, aggT, J0, J1, J2, J3, J4, J5, J6, J7, J8, J9, J10, J11, J12, gv, dstAt, J13, J14, J15, J16, J17, J18, J19, J20, J21, J22, J23, J24, J25, J26, J27, J28, J29, J30, J31, J32, J33, J34, J35, J36, J37, J38, J39, J40, J41, J42, J43, J44, J45, J46, J47, J48, J49, J50, J51, J52, J53, J54, J55, J56, J57, J58, J59, aop, J60, J61, J62, evalsA, partsA, evalO, J63, J64, J65, J66, J67, J68, J69, J70, J71, updO, J72, ofArgs, J73, binV, intBin, J74, unV, J75, J76, mmV, builtinA, J77, J78, J79, J80, J81, J82, J83, J84, J85, J86, J87, J88, J89, Nat.reduceLT, Nat.reduceEqDiff, Nat.reduceAdd, Nat.reduceSub, Nat.reduceMul, reduceIte, J90, J91, J92, reduceCtorEq, J93, J94, J95, J96, J97, J98, J99, J100, t1], by simp only [und3, und4, und22, und26, und29, und45, und64, info3, info4, info22, info26, info29, info45, info64, info50, aggT, J0, J1, J2, J3, J4, J5, J6, J7, J8, J9, J10, J11, J12, gv, dstAt, J13, J14, J15, J16, J17, J18, J19, J20, J21, J22, J23, J24, J25, J26, J27, J28, J29, J30, J31, J32, J33, J34, J35, J36, J37, J38, J39, J40, J41, J42, J43, J44, J45, J46, J47, J48, J49, J50, J51, J52, J53, J54, J55, J56, J57, J58, J59, aop, J60, J61, J62, evalsA, partsA, evalO, J63, J64, J65, J66, J67, J68, J69, J70, J71, updO, J72, ofArgs, J73, binV, intBin, J74, unV, J75, J76, mmV, builtinA, J77, J78, J79, J80, J81, J82, J83, J84, J85, J86, J87, J88, J89, Nat.reduceLT, Nat.reduceEqDiff, Nat.reduceAdd, Nat.reduceSub, Nat.reduceMul, reduceIte, J90, J91, J92, reduceCtorEq, J93, J94, J95, J96, J97, J98, J99, J100, t5], by simp only [und3, und4, und22, und26, und29, und45, und64, info3, info4, info22, info26, info29, info45, info64, info50, aggT, J0, J1, J2, J3, J4, J5, J6, J7, J8, J9, J10, J11, J12, gv, dstAt, J13, J14, J15, J16, J17, J18, J19, J20, J21, J22, J23, J24, J25, J26, J27, J28, J29, J30, J31, J32, J33, J34, J35, J36, J37, J38, J39, J40, J41, J42, J43, J44, J45, J46, J47, J48, J49, J50, J51, J52, J53, J54, J55, J56, J57, J58, J59, aop, J60, J61, J62, evalsA, partsA, evalO, J63, J64, J65, J66, J67, J68, J69, J70, J71, updO, J72, ofArgs, J73, binV, intBin, J74, unV, J75, J76, mmV, builtinA, J77, J78, J79, J80, J81, J82, J83, J84, J85, J86, J87, J88, J89, Nat.reduceLT, Nat.reduceEqDiff, Nat.reduceAdd, Nat.reduceSub, Nat.reduceMul, reduceIte, J90, J91, J92, reduceCtorEq, J93, J94, J95, J96, J97, J98, J99, J100, t7], by simp only [und3, und4, und22, und26, und29, und45, und64, info3, info4, info22, info26, info29, info45, info64, info50, aggT, J0, J1, J2, J3, J4, J5, J6, J7, J8, J9, J10, J11, J12, gv, dstAt, J13, J14, J15, J16, J17, J18, J19, J20, J21, J22, J23, J24, J25, J26, J27, J28, J29, J30, J31, J32, J33, J34, J35, J36, J37, J38, J39, J40, J41, J42, J43, J44, J45, J46, J47, J48, J49, J50, J51, J52, J53, J54, J55, J56, J57, J58, J59, aop, J60, J61, J62, evalsA, partsA, evalO, J63, J64, J65, J66, J67, J68, J69, J70, J71, updO, J72, ofArgs, J73, binV, intBin, J74, unV, J75, J76, mmV, builtinA, J77, J78, J79, J80, J81, J82, J83, J84, J85, J86, J87, J88, J89, Nat.reduceLT, Nat.reduceEqDiff, Nat.reduceAdd, Nat.reduceSub, Nat.reduceMul, reduceIte, J90, J91, J92, reduceCtorEq, J93, J94, J95, J96, J97, J98, J99, J100, t8, hw], hM2, hR2, hP.step hij (by omega)⟩
          · have e1 : decide ((j : Int) < n) = false := by simpa using hjn
            have hjj : j = n := by omega
            subst hjj
            have hw := wrap_succ (k := i) (by omega)
            repeat (first | with_reducible refine W_seq ?_ | with_reducible refine W_block ?_ | with_reducible refine W_scope ?_ | ((first | with_reducible refine W_regionV hTT ?_ | with_reducible refine W_condV ?_ | with_reducible refine W_ret ?_ | with_reducible refine W_exit ?_ | with_reducible refine W_skip ?_ | with_reducible refine W_label ?_ | with_reducible refine W_drawV hTT (by kernel_rfl) ?_); try simp only [und3, und4, und22, und26, und29, und45, und64, info3, info4, info22, info26, info29, info45, info64, info50, aggT, J0, J1, J2, J3, J4, J5, J6, J7, J8, J9, J10, J11, J12, gv, dstAt, J13, J14, J15, J16, J17, J18, J19, J20, J21, J22, J23, J24, J25, J26, J27, J28, J29, J30, J31, J32, J33, J34, J35, J36, J37, J38, J39, J40, J41, J42, J43, J44, J45, J46, J47, J48, J49, J50, J51, J52, J53, J54, J55, J56, J57, J58, J59, aop, J60, J61, J62, evalsA, partsA, evalO, J63, J64, J65, J66, J67, J68, J69, J70, J71, updO, J72, ofArgs, J73, binV, intBin, J74, unV, J75, J76, mmV, builtinA, J77, J78, J79, J80, J81, J82, J83, J84, J85, J86, J87, J88, J89, Nat.reduceLT, Nat.reduceEqDiff, Nat.reduceAdd, Nat.reduceSub, Nat.reduceMul, reduceIte, J90, J91, J92, reduceCtorEq, J93, J94, J95, J96, J97, J98, J99, J100, t0, t1, t5, t7, t8, e1, hw]))
            refine LoopQ_intro (j - (i + 1)) (by omega) ⟨hE, rfl, i + 1, M, rfl, by omega, by simp only [und3, und4, und22, und26, und29, und45, und64, info3, info4, info22, info26, info29, info45, info64, info50, aggT, J0, J1, J2, J3, J4, J5, J6, J7, J8, J9, J10, J11, J12, gv, dstAt, J13, J14, J15, J16, J17, J18, J19, J20, J21, J22, J23, J24, J25, J26, J27, J28, J29, J30, J31, J32, J33, J34, J35, J36, J37, J38, J39, J40, J41, J42, J43, J44, J45, J46, J47, J48, J49, J50, J51, J52, J53, J54, J55, J56, J57, J58, J59, aop, J60, J61, J62, evalsA, partsA, evalO, J63, J64, J65, J66, J67, J68, J69, J70, J71, updO, J72, ofArgs, J73, binV, intBin, J74, unV, J75, J76, mmV, builtinA, J77, J78, J79, J80, J81, J82, J83, J84, J85, J86, J87, J88, J89, Nat.reduceLT, Nat.reduceEqDiff, Nat.reduceAdd, Nat.reduceSub, Nat.reduceMul, reduceIte, J90, J91, J92, reduceCtorEq, J93, J94, J95, J96, J97, J98, J99, J100, t0], by simp only [und3, und4, und22, und26, und29, und45, und64, info3, info4, info22, info26, info29, info45, info64, info50, aggT, J0, J1, J2, J3, J4, J5, J6, J7, J8, J9, J10, J11, J12, gv, dstAt, J13, J14, J15, J16, J17, J18, J19, J20, J21, J22, J23, J24, J25, J26, J27, J28, J29, J30, J31, J32, J33, J34, J35, J36, J37, J38, J39, J40, J41, J42, J43, J44, J45, J46, J47, J48, J49, J50, J51, J52, J53, J54, J55, J56, J57, J58, J59, aop, J60, J61, J62, evalsA, partsA, evalO, J63, J64, J65, J66, J67, J68, J69, J70, J71, updO, J72, ofArgs, J73, binV, intBin, J74, unV, J75, J76, mmV, builtinA, J77, J78, J79, J80, J81, J82, J83, J84, J85, J86, J87, J88, J89, Nat.reduceLT, Nat.reduceEqDiff, Nat.reduceAdd, Nat.reduceSub, Nat.reduceMul, reduceIte, J90, J91, J92, reduceCtorEq, J93, J94, J95, J96, J97, J98, J99, J100, t1], by simp only [und3, und4, und22, und26, und29, und45, und64, info3, info4, info22, info26, info29, info45, info64, info50, aggT, J0, J1, J2, J3, J4, J5, J6, J7, J8, J9, J10, J11, J12, gv, dstAt, J13, J14, J15, J16, J17, J18, J19, J20, J21, J22, J23, J24, J25, J26, J27, J28, J29, J30, J31, J32, J33, J34, J35, J36, J37, J38, J39, J40, J41, J42, J43, J44, J45, J46, J47, J48, J49, J50, J51, J52, J53, J54, J55, J56, J57, J58, J59, aop, J60, J61, J62, evalsA, partsA, evalO, J63, J64, J65, J66, J67, J68, J69, J70, J71, updO, J72, ofArgs, J73, binV, intBin, J74, unV, J75, J76, mmV, builtinA, J77, J78, J79, J80, J81, J82, J83, J84, J85, J86, J87, J88, J89, Nat.reduceLT, Nat.reduceEqDiff, Nat.reduceAdd, Nat.reduceSub, Nat.reduceMul, reduceIte, J90, J91, J92, reduceCtorEq, J93, J94, J95, J96, J97, J98, J99, J100, t5], by simp only [und3, und4, und22, und26, und29, und45, und64, info3, info4, info22, info26, info29, info45, info64, info50, aggT, J0, J1, J2, J3, J4, J5, J6, J7, J8, J9, J10, J11, J12, gv, dstAt, J13, J14, J15, J16, J17, J18, J19, J20, J21, J22, J23, J24, J25, J26, J27, J28, J29, J30, J31, J32, J33, J34, J35, J36, J37, J38, J39, J40, J41, J42, J43, J44, J45, J46, J47, J48, J49, J50, J51, J52, J53, J54, J55, J56, J57, J58, J59, aop, J60, J61, J62, evalsA, partsA, evalO, J63, J64, J65, J66, J67, J68, J69, J70, J71, updO, J72, ofArgs, J73, binV, intBin, J74, unV, J75, J76, mmV, builtinA, J77, J78, J79, J80, J81, J82, J83, J84, J85, J86, J87, J88, J89, Nat.reduceLT, Nat.reduceEqDiff, Nat.reduceAdd, Nat.reduceSub, Nat.reduceMul, reduceIte, J90, J91, J92, reduceCtorEq, J93, J94, J95, J96, J97, J98, J99, J100, t7, hw], hM, hR, hP.next⟩
      · have e1 : decide ((i : Int) < n) = false := by simpa using hlt
        repeat (first | with_reducible refine W_seq ?_ | with_reducible refine W_block ?_ | with_reducible refine W_scope ?_ | ((first | with_reducible refine W_regionV hTT ?_ | with_reducible refine W_condV ?_ | with_reducible refine W_ret ?_ | with_reducible refine W_exit ?_ | with_reducible refine W_skip ?_ | with_reducible refine W_label ?_ | with_reducible refine W_drawV hTT (by kernel_rfl) ?_); try simp only [und3, und4, und22, und26, und29, und45, und64, info3, info4, info22, info26, info29, info45, info64, info50, aggT, J0, J1, J2, J3, J4, J5, J6, J7, J8, J9, J10, J11, J12, gv, dstAt, J13, J14, J15, J16, J17, J18, J19, J20, J21, J22, J23, J24, J25, J26, J27, J28, J29, J30, J31, J32, J33, J34, J35, J36, J37, J38, J39, J40, J41, J42, J43, J44, J45, J46, J47, J48, J49, J50, J51, J52, J53, J54, J55, J56, J57, J58, J59, aop, J60, J61, J62, evalsA, partsA, evalO, J63, J64, J65, J66, J67, J68, J69, J70, J71, updO, J72, ofArgs, J73, binV, intBin, J74, unV, J75, J76, mmV, builtinA, J77, J78, J79, J80, J81, J82, J83, J84, J85, J86, J87, J88, J89, Nat.reduceLT, Nat.reduceEqDiff, Nat.reduceAdd, Nat.reduceSub, Nat.reduceMul, reduceIte, J90, J91, J92, reduceCtorEq, J93, J94, J95, J96, J97, J98, J99, J100, t0, t1, t5, t7, e1]))
        exact ⟨⟨M, hP.all (by omega), hR.mat hM.sl hbs (by omega)⟩, hM.plain, hE⟩
end Go.Proofs.Sz
end
