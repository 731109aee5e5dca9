/-
  No cell of these rows narrows 'for every input' (looked for: loops, veiled, ifaces, maps, wideKeys, modest, calm, conditions, laid).
  DERIVED. THE GIVEN ROWS OF THIS SEAT. 4 by the template 'for every input the law returns true; each argument reads behind the call as it read before'; 0 by the template 'total and deterministic' (their statements: YtiinngafmlbgpaaTotals.lean).
  GIVEN WITH THE SEED: the statements are not yours to turn. If you find one false, say at which input.
  Laid BY PROGRAM, IN A SANDBOX (cutbox-rows.mjs): the forced cells as the released guide's own fill.sh prints them over the translation bc8ccccb4f6c01da… (all of the seat's roots in one cut). By AI agents, Wed Nov 11 2026. No macro, syntax, notation, axiom, sorry.
-/
import Derived.Test.YtiinngafmlbgpaaChecked
import GoSem.Claim
import GoSem.ClaimJoined
import GoSem.ClaimMapViews
import Derived.JoinedTies
import Derived.KernelRfl
namespace Go.Proofs.Ytiinngafmlbgpaa
/- THE CELL 'sum', in the pinned program and in every row, IS THE sha256 OF THE DUMP (.gsa) THAT YtiinngafmlbgpaaProg.lean LOADS. Nothing in Lean hashes anything: it is a label: what it is worth is what the hold of that sum in a sandbox is worth. -/
noncomputable def Try.pinned : Pinned := { name := "ytiinngafmlbgpaa", sum := "bc8ccccb4f6c01da81f524aa3769762012ffe4e7cae637bf665948f95d3a4693", checked := Try.checked }
namespace Rows
def none {H : Type} : Left H := { results := [], args := [] }

/-- 'tickinglaw09.ScoresCodes': WHATEVER THE INPUT: true; the input reads as it did. -/
def scoresCodesSpec : ChangeSpec := { name := "scoresCodes", fn := fun _ => fun
  | [d1, d2] => { results := [.lit (.bool true)], args := [d1, d2] }
  | _ => none }
def scoresCodesRow : OpenClaim := { program := "ytiinngafmlbgpaa", sum := "bc8ccccb4f6c01da81f524aa3769762012ffe4e7cae637bf665948f95d3a4693", func := "ticking/tickinglaw09.ScoresCodes", spec := "scoresCodes", inPlace := ["internal/abi.NoEscape", "internal/bytealg.MakeNoZero"], unfollowed := true, recurses := true, apart := false }
def ScoresCodesSaid : Prop := scoresCodesRow.holds Try.pinned (OpenSpec.ofChange scoresCodesSpec)

/-- ITS FALSE NEIGHBOUR: 'it returns false'. Refute it at one input. -/
def scoresCodesWrong : ChangeSpec := { name := "scoresCodes", fn := fun _ => fun
  | [d1, d2] => { results := [.lit (.bool false)], args := [d1, d2] }
  | _ => none }
def ScoresCodesWrongFalsely : Prop := scoresCodesRow.holds Try.pinned (OpenSpec.ofChange scoresCodesWrong)

/-- 'tickinglaw09.ScoresShapes': WHATEVER THE INPUT: true; the input reads as it did. -/
def scoresShapesSpec : ChangeSpec := { name := "scoresShapes", fn := fun _ => fun
  | [d1, d2, d3] => { results := [.lit (.bool true)], args := [d1, d2, d3] }
  | _ => none }
def scoresShapesRow : OpenClaim := { program := "ytiinngafmlbgpaa", sum := "bc8ccccb4f6c01da81f524aa3769762012ffe4e7cae637bf665948f95d3a4693", func := "ticking/tickinglaw09.ScoresShapes", spec := "scoresShapes", inPlace := ["internal/abi.NoEscape", "internal/bytealg.MakeNoZero"], unfollowed := true, recurses := true, apart := false }
def ScoresShapesSaid : Prop := scoresShapesRow.holds Try.pinned (OpenSpec.ofChange scoresShapesSpec)

/-- ITS FALSE NEIGHBOUR: 'it returns false'. Refute it at one input. -/
def scoresShapesWrong : ChangeSpec := { name := "scoresShapes", fn := fun _ => fun
  | [d1, d2, d3] => { results := [.lit (.bool false)], args := [d1, d2, d3] }
  | _ => none }
def ScoresShapesWrongFalsely : Prop := scoresShapesRow.holds Try.pinned (OpenSpec.ofChange scoresShapesWrong)

/-- 'tickinglaw09.ScoresPruefer': WHATEVER THE INPUT: true; the input reads as it did. -/
def scoresPrueferSpec : ChangeSpec := { name := "scoresPruefer", fn := fun _ => fun
  | [d1, d2] => { results := [.lit (.bool true)], args := [d1, d2] }
  | _ => none }
def scoresPrueferRow : OpenClaim := { program := "ytiinngafmlbgpaa", sum := "bc8ccccb4f6c01da81f524aa3769762012ffe4e7cae637bf665948f95d3a4693", func := "ticking/tickinglaw09.ScoresPruefer", spec := "scoresPruefer", inPlace := ["internal/abi.NoEscape", "internal/bytealg.MakeNoZero"], unfollowed := true, recurses := true, apart := false }
def ScoresPrueferSaid : Prop := scoresPrueferRow.holds Try.pinned (OpenSpec.ofChange scoresPrueferSpec)

/-- ITS FALSE NEIGHBOUR: 'it returns false'. Refute it at one input. -/
def scoresPrueferWrong : ChangeSpec := { name := "scoresPruefer", fn := fun _ => fun
  | [d1, d2] => { results := [.lit (.bool false)], args := [d1, d2] }
  | _ => none }
def ScoresPrueferWrongFalsely : Prop := scoresPrueferRow.holds Try.pinned (OpenSpec.ofChange scoresPrueferWrong)

/-- 'tickinglaw09.ScoresAll': WHATEVER THE INPUT: true; the input reads as it did. -/
def scoresAllSpec : ChangeSpec := { name := "scoresAll", fn := fun _ => fun
  | [d1, d2] => { results := [.lit (.bool true)], args := [d1, d2] }
  | _ => none }
def scoresAllRow : OpenClaim := { program := "ytiinngafmlbgpaa", sum := "bc8ccccb4f6c01da81f524aa3769762012ffe4e7cae637bf665948f95d3a4693", func := "ticking/tickinglaw09.ScoresAll", spec := "scoresAll", inPlace := ["internal/abi.NoEscape", "internal/bytealg.MakeNoZero"], unfollowed := true, recurses := true, apart := false }
def ScoresAllSaid : Prop := scoresAllRow.holds Try.pinned (OpenSpec.ofChange scoresAllSpec)

/-- ITS FALSE NEIGHBOUR: 'it returns false'. Refute it at one input. -/
def scoresAllWrong : ChangeSpec := { name := "scoresAll", fn := fun _ => fun
  | [d1, d2] => { results := [.lit (.bool false)], args := [d1, d2] }
  | _ => none }
def ScoresAllWrongFalsely : Prop := scoresAllRow.holds Try.pinned (OpenSpec.ofChange scoresAllWrong)

/- THE SECOND FORM. 'bulk': how many values and letters a reading holds, each counted each time it is reached (what is shared counts as often as it is met; a slice's spare places count too). A statement '..UptoSaid' is the law's where the arguments, and the package variables that the reading takes, are together of bulk at most 1048576: NARROWER than '..Said'. Prove '..Said' where nothing that the law and all that it calls make is longer than what came in: it says more and counts as full. Else prove '..UptoSaid'. A law counts once. -/
mutual
def uptoBulk {H : Type} : DataW H → Nat
  | .lit (.string bytes) => bytes.length + 1
  | .lit _ => 1
  | .nil => 1
  | .ptr d => uptoBulk d + 1
  | .slice elems spare => uptoBulkAll elems + uptoBulkAll spare + 1
  | .agg parts => uptoBulkAll parts + 1
  | .iface _ d => uptoBulk d + 1
  | .map entries => uptoBulkEntries entries + 1
  | .held _ => 1
def uptoBulkAll {H : Type} : List (DataW H) → Nat
  | [] => 0
  | d :: r => uptoBulk d + uptoBulkAll r
def uptoBulkEntries {H : Type} : List (Lit × DataW H) → Nat
  | [] => 0
  | x :: r => uptoBulkEntry x + uptoBulkEntries r
def uptoBulkEntry {H : Type} : Lit × DataW H → Nat
  | (.string bytes, d) => bytes.length + uptoBulk d + 1
  | (_, d) => uptoBulk d + 1
 end
def uptoSmall : (H : Type) → List (DataW H) → Bool := fun _ ds => decide (uptoBulkAll ds ≤ 1048576)
def OpenSpec.upto (s : _root_.Go.ChangeSpec) : _root_.Go.OpenSpec := { _root_.Go.OpenSpec.ofChange s with cond := some uptoSmall }

/-- 'tickinglaw09.ScoresCodes', WHERE WHAT IT READS IS OF BULK AT MOST 1048576: true; the input reads as it did. -/
def scoresCodesUptoRow : OpenClaim := { program := "ytiinngafmlbgpaa", sum := "bc8ccccb4f6c01da81f524aa3769762012ffe4e7cae637bf665948f95d3a4693", func := "ticking/tickinglaw09.ScoresCodes", spec := "scoresCodes", inPlace := ["internal/abi.NoEscape", "internal/bytealg.MakeNoZero"], unfollowed := true, recurses := true, apart := false, narrowed := true }
def ScoresCodesUptoSaid : Prop := scoresCodesUptoRow.holds Try.pinned (OpenSpec.upto scoresCodesSpec)

/-- 'tickinglaw09.ScoresShapes', WHERE WHAT IT READS IS OF BULK AT MOST 1048576: true; the input reads as it did. -/
def scoresShapesUptoRow : OpenClaim := { program := "ytiinngafmlbgpaa", sum := "bc8ccccb4f6c01da81f524aa3769762012ffe4e7cae637bf665948f95d3a4693", func := "ticking/tickinglaw09.ScoresShapes", spec := "scoresShapes", inPlace := ["internal/abi.NoEscape", "internal/bytealg.MakeNoZero"], unfollowed := true, recurses := true, apart := false, narrowed := true }
def ScoresShapesUptoSaid : Prop := scoresShapesUptoRow.holds Try.pinned (OpenSpec.upto scoresShapesSpec)

/-- 'tickinglaw09.ScoresPruefer', WHERE WHAT IT READS IS OF BULK AT MOST 1048576: true; the input reads as it did. -/
def scoresPrueferUptoRow : OpenClaim := { program := "ytiinngafmlbgpaa", sum := "bc8ccccb4f6c01da81f524aa3769762012ffe4e7cae637bf665948f95d3a4693", func := "ticking/tickinglaw09.ScoresPruefer", spec := "scoresPruefer", inPlace := ["internal/abi.NoEscape", "internal/bytealg.MakeNoZero"], unfollowed := true, recurses := true, apart := false, narrowed := true }
def ScoresPrueferUptoSaid : Prop := scoresPrueferUptoRow.holds Try.pinned (OpenSpec.upto scoresPrueferSpec)

/-- 'tickinglaw09.ScoresAll', WHERE WHAT IT READS IS OF BULK AT MOST 1048576: true; the input reads as it did. -/
def scoresAllUptoRow : OpenClaim := { program := "ytiinngafmlbgpaa", sum := "bc8ccccb4f6c01da81f524aa3769762012ffe4e7cae637bf665948f95d3a4693", func := "ticking/tickinglaw09.ScoresAll", spec := "scoresAll", inPlace := ["internal/abi.NoEscape", "internal/bytealg.MakeNoZero"], unfollowed := true, recurses := true, apart := false, narrowed := true }
def ScoresAllUptoSaid : Prop := scoresAllUptoRow.holds Try.pinned (OpenSpec.upto scoresAllSpec)

end Rows
end Go.Proofs.Ytiinngafmlbgpaa
