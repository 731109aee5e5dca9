/- The law's statement: for every input the call returns true and leaves its arguments as they were. No condition beyond the given ones. -/
import Derived.Test.YtiinngafmlbgpaaRows
import Derived.Test.YtiinngafmlbgpaaSc1
import Derived.Test.YtiinngafmlbgpaaSc5
import Derived.WalkKit
import Derived.ProofKit
import Derived.OpenShut
import Derived.ShutString
import Derived.ChangeOld
import Derived.Below
set_option linter.unusedSimpArgs false
set_option linter.unusedVariables false
/- part Tz -/
section
/- The statement of ScoresCodes: the walk's law, at the program's own worlds. -/
namespace Go.Proofs.Ytiinngafmlbgpaa.scoresCodes
open Go.ChangeShapes Go.WideShapes Go.ChangeAt Go.RowKit
open Go.ChangeMaps (open_string shut_string)
set_option linter.unusedVariables false

theorem own : ownKnob Try.prog.godebug = none := by kernel_rfl
theorem laidOut : laidOutB Try.prog = true := by kernel_rfl

/-- a row of whole numbers that came in: nil, or cells of a block -/
def IsRow (w : World) (a : Option Addr) (len cap : Nat) (zs : List Int) : Prop :=
  (a = none ∧ len = 0 ∧ cap = 0 ∧ zs = []) ∨
  ∃ b o arr t fz, a = some ⟨b, o, none⟩ ∧ len ≤ cap ∧ cap ≤ maxLen ∧ zs.length = cap ∧ w.heap[b]? = some (.cells arr t fz) ∧ ∀ i, i < zs.length → arr[o + i]? = some (.int .i64 (zs.getD i 0))

theorem cell_at {w : World} {b o : Nat} {arr : Array Value} {t : TypeId} {fz : Nat × Nat} (hb : w.heap[b]? = some (.cells arr t fz)) (i : Nat) : w.cell? ((⟨b, o, none⟩ : Addr).add i) = arr[o + i]? := by
  unfold Addr.add World.cell?
  by_cases h : i = 0
  · subst h; simp [hb]
  · simp [h, hb]
theorem has_row {P : Program} {W : World} {base : Nat} {t e : TypeId} {x : Addr} {len cap : Nat} (ht : P.underlying t = some (.slice e)) (h : Value.okWide P W .any base t (.slice (some x) len cap)) :
    ∃ b o arr t fz, x = ⟨b, o, none⟩ ∧ W.heap[b]? = some (.cells arr t fz) := by
  simp only [Value.okWide, ht, Cell.okWide, Cell.ok] at h
  obtain ⟨_, _, _, h1, r, c, h2, _⟩ := h
  obtain ⟨b, o, s⟩ := x
  simp only at h1 h2
  subst h1
  unfold World.shape? at h2
  split at h2
  · rename_i c' e' fz hc
    exact ⟨b, o, c', e', fz, rfl, hc⟩
  · cases h2
theorem ints_of {zs : List Int} {len : Nat} (h : len ≤ zs.length) {arr : Array Value} {o : Nat} (hc : ∀ i, i < zs.length → arr[o + i]? = some (.int .i64 (zs.getD i 0))) (k : Nat) (v : Value) (hv : (Ax.iv (zs.take len))[k]? = some v) : arr[o + k]? = some v := by
  rw [Ax.iv_get] at hv
  rw [List.getElem?_take] at hv
  split at hv
  · rename_i hk
    rw [hc k (by omega), List.getD_eq_getElem?_getD]
    rw [List.getElem?_eq_getElem (by omega)] at hv ⊢
    simpa using hv
  · cases hv
theorem ints_scalar (l : List Int) : ∀ v ∈ Ax.iv l, Ax.scalar v = true := by
  intro v hv
  unfold Ax.iv at hv
  rw [List.mem_map] at hv
  obtain ⟨x, _, rfl⟩ := hv
  rfl
/-- the walk -/
theorem walk (a0 : Int) (a1 : Option Addr) (len1 cap1 : Nat) (z1 : List Int) (w : World) (w1 : IsRow w a1 len1 cap1 z1) :
    Calls Try.prog 3 #[.int .i64 a0, .slice a1 len1 cap1] w fun e w' => e = .returned (.bool true) ∧ Below w.heap.size w w' := by
  rcases w1 with ⟨rfl, rfl, rfl, rfl⟩ | ⟨b, o, arr, t, fz, rfl, hl, hm, hz, hb, hc⟩
  · have hlaw := Sx.law_call (S := { objs := [], n := 0, low := 0 }) (n := a0) (vc := .slice none 0 0) (xs := []) rfl (.inl ⟨rfl, rfl, rfl⟩) (.inl rfl)
    refine (Ax.callW_start (Ax.SR.start w) (args' := [.int .i64 a0, .slice none 0 0]) (.cons (.sc rfl) (.cons (.sc rfl) .nil)) (Q := fun u => u = .bool true) (hlaw.mono fun v _ h => ⟨v, by rw [h]; rfl, rfl, h⟩)).mono ?_
    rintro e w' ⟨u, rfl, rfl, hB⟩
    exact ⟨rfl, hB⟩
  · have hlt : (z1.take len1).length = len1 := by rw [List.length_take]; omega
    have hsl : Ax.Sl (Ax.startX o (Ax.iv (z1.take len1))) 1 (.slice (some ⟨0, o, none⟩) len1 cap1) (Ax.iv (z1.take len1)) (z1.take len1).length := by
      rw [hlt]
      refine .inr (.inr ⟨0, o, cap1, o, Ax.iv (z1.take len1), rfl, ?_, ?_, ?_, ?_, ?_, ?_⟩)
      · unfold Ax.view; rw [Ax.startX_get]
      · exact Nat.le_refl _
      · rw [Ax.iv_len, hlt]; omega
      · rw [Ax.iv_len, hlt]; omega
      · rw [Nat.sub_self, List.drop_zero, List.take_of_length_le (by rw [Ax.iv_len, hlt]; omega)]
      · exact .inl ⟨by unfold maxLen at hm; unfold Ax.BIG; omega, hl⟩
    have hlaw := Sx.law_call (S := Ax.startX o (Ax.iv (z1.take len1))) (n := a0) (xs := z1.take len1) rfl hsl (.inr ⟨0, o, cap1, by rw [hlt]⟩)
    refine (Ax.callW_start (Ax.SR.startX w hb (ints_scalar _) (ints_of (by omega) hc)) (args' := [.int .i64 a0, .slice (some ⟨b, o, none⟩) len1 cap1]) (.cons (.sc rfl) (.cons ?_ .nil)) (Q := fun u => u = .bool true) (hlaw.mono fun v _ h => ⟨v, by rw [h]; rfl, rfl, h⟩)).mono ?_
    · exact Ax.VR.slx o len1 cap1 rfl (by unfold maxLen at hm; unfold Ax.BIG; omega)
    · rintro e w' ⟨u, rfl, rfl, hB⟩
      exact ⟨rfl, hB⟩

set_option maxRecDepth 100000 in
theorem lifted (os : Os) (started : os.Started) (H : Type) (enc : TypeId × Value → H) :
    ReturnsInHanded {} Try.checked os 3 .any (Rows.scoresCodesSpec.pre6 enc Try.prog Try.f3 Rows.scoresCodesRow.domain false) (Rows.scoresCodesSpec.post enc Try.prog Try.f3 false true false false) := by
  refine returnsInHanded_of_change (C := Try.checked) own started (by kernel_rfl) Try.func3
    (ChangeSpec.witness6 (enc := enc) (C := Try.checked) false ⟨#[], #[.int .i64 0, .slice none 0 0], []⟩ 8 (by kernel_rfl) (by kernel_rfl) (by kernel_rfl) (by kernel_rfl)) ?_
  intro W base args ds gs before hval0 hW hcnd _
  have hval : ∀ (j : Nat) t v, Try.f3.params[j]? = some t → args[j]? = some v → Value.okWide Try.prog W .any base t v := hval0
  have hW' := hW
  obtain ⟨p, q, hA0, hV, rfl, hfz, hnd⟩ := hW
  have hA : DataW.TrodAll enc Try.prog W 0 (fun _ => true) true Try.f3.params.toList args.toList ds p := hA0
  rw [Try.params3] at hA hval
  obtain ⟨v0, vs0, d0, ds0, p0, q0, hargs, rfl, rfl, h0, r0⟩ := trodAll_cons hA
  obtain ⟨v1, vs1, d1, ds1, p1, q1, rfl, rfl, rfl, h1, r1⟩ := trodAll_cons r0
  obtain ⟨rfl, rfl, rfl⟩ := trodAll_nil r1
  obtain rfl : args = #[v0, v1] := by cases args; simp_all
  obtain ⟨rfl, rfl⟩ := trodVars_none hV
  obtain ⟨a0, rfl, rfl, rfl, w0⟩ := open_int Try.underlying3 (hval 0 3 v0 rfl rfl) h0
  obtain ⟨a1, len1, cap1, rfl⟩ := okWide_slice Try.underlying22 (hval 1 22 v1 rfl rfl)
  have k1 := h1
  have lt1 : ∀ x ∈ p1, x.block < W.heap.size := by obtain ⟨m, hm⟩ := k1; exact DataW.trod_lt m _ _ _ hm
  obtain ⟨z1, w1⟩ : ∃ zs, IsRow W a1 len1 cap1 zs := by
    obtain ⟨fuel, hf⟩ := h1
    rcases open_ints Try.underlying22 Try.underlying3 (by kernel_rfl) hf with ⟨hcs, _⟩ | ⟨x, l, c, zs, hcs, _, hl, hm, hz, _, hcell, hwz⟩
    · simp [Value.cells] at hcs
      obtain ⟨rfl, rfl, rfl⟩ := hcs
      exact ⟨[], .inl ⟨rfl, rfl, rfl, rfl⟩⟩
    · simp [Value.cells] at hcs
      obtain ⟨rfl, rfl, rfl⟩ := hcs
      obtain ⟨b, o, arr, t, fz, rfl, hb⟩ := has_row Try.underlying22 (hval 1 22 _ rfl rfl)
      exact ⟨zs, .inr ⟨b, o, arr, t, fz, rfl, hl, hm, by simpa using hz, hb, fun i hi => (cell_at hb i).symm.trans (hcell i hi)⟩⟩
  clear hA0 hval0
  refine (walk a0 a1 len1 cap1 z1 W w1).mono fun e W' ⟨he, bel⟩ => ?_
  subst he
  exact ⟨_, rfl, _, _, _, [], _, [], hW', trodAll_mk1 (shut_bool Try.underlying4 _), (trodAll_cons_mk (shut_int Try.underlying3 w0) (trodAll_cons_mk (Below.trod laidOut (by kernel_rfl) (of_decide_eq_true (by kernel_rfl)) k1 bel lt1) trodAll_mk0)), rfl, bel.frame _, fun h => by cases h⟩

theorem over : Rows.scoresCodesRow.holds Try.pinned (OpenSpec.ofChange Rows.scoresCodesSpec) :=
  OpenClaim.holds_of_wide 3 Try.f3 rfl rfl rfl rfl rfl rfl rfl ⟨rfl, rfl, rfl, rfl, rfl⟩ rfl rfl rfl rfl rfl (by kernel_rfl) Try.func3 (by kernel_rfl)
    (of_decide_eq_true (by kernel_rfl)) (by unfold Func.isWrapper; first | (rw [if_pos (by decide +kernel)]; kernel_rfl) | (rw [if_neg (by decide +kernel)]; exact ⟨rfl, rfl⟩))
    (fun os started H enc _ => lifted os started H enc)

/-- the statement -/
theorem proved : Rows.ScoresCodesSaid := over
end Go.Proofs.Ytiinngafmlbgpaa.scoresCodes
end
