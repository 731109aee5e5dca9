/- The law's statement: for every input the call returns true and leaves its arguments as they were. No condition beyond the given ones. -/
import Derived.Test.YtiinngafmlbgpaaGreatRows
import Derived.Test.YtiinngafmlbgpaaGreatSp2
import Derived.Test.YtiinngafmlbgpaaGreatSp5
import Derived.WideKeyPair
set_option linter.unusedSimpArgs false
set_option linter.unusedVariables false
/- part Zpld -/
section
/- The statement of ScoresPlayed: the walk's law, at the program's own worlds. -/
namespace Go.Proofs.YtiinngafmlbgpaaGreat.scoresPlayed
open Go.ChangeShapes Go.WideShapes Go.ChangeAt Go.RowKit Go.WideMaps
set_option linter.unusedVariables false

theorem own : ownKnob Tryz.prog.godebug = none := by kernel_rfl
theorem laidOut : laidOutB Tryz.prog = true := by kernel_rfl

/-- the pair of ints -/
theorem pairK : ArrKey Tryz.prog 41 3 2 := ⟨Tryz.underlying41, by kernel_rfl, by kernel_rfl, by kernel_rfl⟩

/-- the walk -/
theorem walk (v0 : Value) (n0 n1 : Int) (xss : List (List Int)) (w : World) (h : Ax.TabIn w v0 xss) :
    Calls Tryz.prog 5 #[v0, .agg #[.int .i64 n0, .int .i64 n1]] w fun e w' => e = .returned (.bool true) ∧ Below w.heap.size w w' := by
  obtain ⟨S, E, u, hok, hS, hv, hM, _⟩ := Ax.tabIn_start h
  refine (Ax.callW_start hS (args' := [v0, .agg #[.int .i64 n0, .int .i64 n1]]) (.cons hv (.cons (.of_plain rfl) .nil)) (Q := fun u => u = .bool true) ((Sz.played_call hok hM n0 n1).mono fun v _ h => ⟨v, by rw [h]; rfl, rfl, h⟩)).mono ?_
  rintro e w' ⟨u, rfl, rfl, hB⟩
  exact ⟨rfl, hB⟩

set_option maxRecDepth 100000 in
theorem lifted (os : Os) (started : os.Started) (H : Type) (enc : TypeId × Value → H) :
    ReturnsInHanded {} Tryz.checked os 5 .any (Rows.scoresPlayedSpec.pre6 enc Tryz.prog Tryz.f5 Rows.scoresPlayedRow.domain false) (Rows.scoresPlayedSpec.post enc Tryz.prog Tryz.f5 false true false false) := by
  refine returnsInHanded_of_change (C := Tryz.checked) own started (by kernel_rfl) Tryz.func5
    (ChangeSpec.witness6 (enc := enc) (C := Tryz.checked) false ⟨#[], #[.slice none 0 0, .agg #[.int .i64 0, .int .i64 0]], []⟩ 8 (by kernel_rfl) (by kernel_rfl) (by kernel_rfl) (by kernel_rfl)) ?_
  intro W base args ds gs before hval0 hW hcnd _
  have hval : ∀ (j : Nat) t v, Tryz.f5.params[j]? = some t → args[j]? = some v → Value.okWide Tryz.prog W .any base t v := hval0
  have hW' := hW
  obtain ⟨p, q, hA0, hV, rfl, hfz, hnd⟩ := hW
  have hA : DataW.TrodAll enc Tryz.prog W 0 (fun _ => true) true Tryz.f5.params.toList args.toList ds p := hA0
  rw [Tryz.params5] at hA hval
  obtain ⟨v0, vs0, d0, ds0, p0, q0, hargs, rfl, rfl, h0, r0⟩ := trodAll_cons hA
  obtain ⟨v1, vs1, d1, ds1, p1, q1, rfl, rfl, rfl, h1, r1⟩ := trodAll_cons r0
  obtain ⟨rfl, rfl, rfl⟩ := trodAll_nil r1
  obtain rfl : args = #[v0, v1] := by cases args; simp_all
  obtain ⟨rfl, rfl⟩ := trodVars_none hV
  obtain ⟨n0, n1, rfl, rfl, rfl, w0, w1⟩ := open_pair pairK Tryz.underlying3 (hval 1 41 v1 rfl rfl) h1
  have k0 := h0
  have lt0 : ∀ x ∈ p0, x.block < W.heap.size := by obtain ⟨m, hm⟩ := k0; exact DataW.trod_lt m _ _ _ hm
  obtain ⟨xss, hx⟩ := Ax.tabIn_trod Tryz.underlying22 Tryz.underlying26 Tryz.underlying3 (by kernel_rfl) (by kernel_rfl) (hval 0 22 v0 rfl rfl) h0
  clear hA0 hval0
  refine (walk v0 n0 n1 xss W hx).mono fun e W' ⟨he, bel⟩ => ?_
  subst he
  exact ⟨_, rfl, _, _, _, [], _, [], hW', trodAll_mk1 (shut_bool Tryz.underlying4 _), (trodAll_cons_mk (Below.trod laidOut (by kernel_rfl) (of_decide_eq_true (by kernel_rfl)) k0 bel lt0) (trodAll_cons_mk (shut_pair pairK Tryz.underlying3 w0 w1) trodAll_mk0)), rfl, bel.frame _, fun h => by cases h⟩

theorem over : Rows.scoresPlayedRow.holds Tryz.pinned (OpenSpec.ofChange Rows.scoresPlayedSpec) :=
  OpenClaim.holds_of_wide 5 Tryz.f5 rfl rfl rfl rfl rfl rfl rfl ⟨rfl, rfl, rfl, rfl, rfl⟩ rfl rfl rfl rfl rfl (by kernel_rfl) Tryz.func5 (by kernel_rfl)
    (of_decide_eq_true (by kernel_rfl)) (by unfold Func.isWrapper; first | (rw [if_pos (by decide +kernel)]; kernel_rfl) | (rw [if_neg (by decide +kernel)]; exact ⟨rfl, rfl⟩))
    (fun os started H enc _ => lifted os started H enc)

/-- the statement -/
theorem proved : Rows.ScoresPlayedSaid := over
end Go.Proofs.YtiinngafmlbgpaaGreat.scoresPlayed
end
