/-
  No cell of these rows narrows 'for every input' (looked for: loops, veiled, ifaces, maps, wideKeys, modest, calm, conditions, laid).
  DERIVED. THE GIVEN ROWS OF THIS SEAT. 9 by the template 'for every input the law returns true; each argument reads behind the call as it read before'; 0 by the template 'total and deterministic' (their statements: YtibnaangfdohiaaTotals.lean).
  GIVEN WITH THE SEED: the statements are not yours to turn. If you find one false, say at which input.
  Laid BY PROGRAM, IN A SANDBOX (cutbox-rows.mjs): the forced cells as the released guide's own fill.sh prints them over the translation 3d952b0539449dc7… (all of the seat's roots in one cut). By AI agents, Wed Nov 11 2026. No macro, syntax, notation, axiom, sorry.
-/
import Derived.Test.YtibnaangfdohiaaChecked
import GoSem.Claim
import GoSem.ClaimJoined
import GoSem.ClaimMapViews
import Derived.JoinedTies
import Derived.KernelRfl
namespace Go.Proofs.Ytibnaangfdohiaa
/- THE CELL 'sum', in the pinned program and in every row, IS THE sha256 OF THE DUMP (.gsa) THAT YtibnaangfdohiaaProg.lean LOADS. Nothing in Lean hashes anything: it is a label: what it is worth is what the hold of that sum in a sandbox is worth. -/
noncomputable def Try.pinned : Pinned := { name := "ytibnaangfdohiaa", sum := "3d952b0539449dc770f15554372a2a2c9cea86a3ce830d1dcc8b2f43bb79ab0c", checked := Try.checked }
namespace Rows
def none {H : Type} : Left H := { results := [], args := [] }

/-- 'casebooklaw40.TimingQuantiles': WHATEVER THE INPUT: true; the input reads as it did. -/
def timingQuantilesSpec : ChangeSpec := { name := "timingQuantiles", fn := fun _ => fun
  | [d1, d2] => { results := [.lit (.bool true)], args := [d1, d2] }
  | _ => none }
def timingQuantilesRow : OpenClaim := { program := "ytibnaangfdohiaa", sum := "3d952b0539449dc770f15554372a2a2c9cea86a3ce830d1dcc8b2f43bb79ab0c", func := "casebook/casebooklaw40.TimingQuantiles", spec := "timingQuantiles", unfollowed := true, recurses := true, apart := false }
def TimingQuantilesSaid : Prop := timingQuantilesRow.holds Try.pinned (OpenSpec.ofChange timingQuantilesSpec)

/-- ITS FALSE NEIGHBOUR: 'it returns false'. Refute it at one input. -/
def timingQuantilesWrong : ChangeSpec := { name := "timingQuantiles", fn := fun _ => fun
  | [d1, d2] => { results := [.lit (.bool false)], args := [d1, d2] }
  | _ => none }
def TimingQuantilesWrongFalsely : Prop := timingQuantilesRow.holds Try.pinned (OpenSpec.ofChange timingQuantilesWrong)

/-- 'casebooklaw40.TimingSamples': WHATEVER THE INPUT: true; the input reads as it did. -/
def timingSamplesSpec : ChangeSpec := { name := "timingSamples", fn := fun _ => fun
  | [d1, d2] => { results := [.lit (.bool true)], args := [d1, d2] }
  | _ => none }
def timingSamplesRow : OpenClaim := { program := "ytibnaangfdohiaa", sum := "3d952b0539449dc770f15554372a2a2c9cea86a3ce830d1dcc8b2f43bb79ab0c", func := "casebook/casebooklaw40.TimingSamples", spec := "timingSamples", unfollowed := true, recurses := true, apart := false }
def TimingSamplesSaid : Prop := timingSamplesRow.holds Try.pinned (OpenSpec.ofChange timingSamplesSpec)

/-- ITS FALSE NEIGHBOUR: 'it returns false'. Refute it at one input. -/
def timingSamplesWrong : ChangeSpec := { name := "timingSamples", fn := fun _ => fun
  | [d1, d2] => { results := [.lit (.bool false)], args := [d1, d2] }
  | _ => none }
def TimingSamplesWrongFalsely : Prop := timingSamplesRow.holds Try.pinned (OpenSpec.ofChange timingSamplesWrong)

/-- 'casebooklaw40.TimingDistances': WHATEVER THE INPUT: true; the input reads as it did. -/
def timingDistancesSpec : ChangeSpec := { name := "timingDistances", fn := fun _ => fun
  | [d1, d2] => { results := [.lit (.bool true)], args := [d1, d2] }
  | _ => none }
def timingDistancesRow : OpenClaim := { program := "ytibnaangfdohiaa", sum := "3d952b0539449dc770f15554372a2a2c9cea86a3ce830d1dcc8b2f43bb79ab0c", func := "casebook/casebooklaw40.TimingDistances", spec := "timingDistances", unfollowed := true, recurses := true, apart := false }
def TimingDistancesSaid : Prop := timingDistancesRow.holds Try.pinned (OpenSpec.ofChange timingDistancesSpec)

/-- ITS FALSE NEIGHBOUR: 'it returns false'. Refute it at one input. -/
def timingDistancesWrong : ChangeSpec := { name := "timingDistances", fn := fun _ => fun
  | [d1, d2] => { results := [.lit (.bool false)], args := [d1, d2] }
  | _ => none }
def TimingDistancesWrongFalsely : Prop := timingDistancesRow.holds Try.pinned (OpenSpec.ofChange timingDistancesWrong)

/-- 'casebooklaw40.TimingMerges': WHATEVER THE INPUT: true; the input reads as it did. -/
def timingMergesSpec : ChangeSpec := { name := "timingMerges", fn := fun _ => fun
  | [d1, d2] => { results := [.lit (.bool true)], args := [d1, d2] }
  | _ => none }
def timingMergesRow : OpenClaim := { program := "ytibnaangfdohiaa", sum := "3d952b0539449dc770f15554372a2a2c9cea86a3ce830d1dcc8b2f43bb79ab0c", func := "casebook/casebooklaw40.TimingMerges", spec := "timingMerges", unfollowed := true, recurses := true, apart := false }
def TimingMergesSaid : Prop := timingMergesRow.holds Try.pinned (OpenSpec.ofChange timingMergesSpec)

/-- ITS FALSE NEIGHBOUR: 'it returns false'. Refute it at one input. -/
def timingMergesWrong : ChangeSpec := { name := "timingMerges", fn := fun _ => fun
  | [d1, d2] => { results := [.lit (.bool false)], args := [d1, d2] }
  | _ => none }
def TimingMergesWrongFalsely : Prop := timingMergesRow.holds Try.pinned (OpenSpec.ofChange timingMergesWrong)

/-- 'casebooklaw40.TimingMetric': WHATEVER THE INPUT: true; the input reads as it did. -/
def timingMetricSpec : ChangeSpec := { name := "timingMetric", fn := fun _ => fun
  | [d1, d2, d3, d4] => { results := [.lit (.bool true)], args := [d1, d2, d3, d4] }
  | _ => none }
def timingMetricRow : OpenClaim := { program := "ytibnaangfdohiaa", sum := "3d952b0539449dc770f15554372a2a2c9cea86a3ce830d1dcc8b2f43bb79ab0c", func := "casebook/casebooklaw40.TimingMetric", spec := "timingMetric", unfollowed := true, recurses := true, apart := false }
def TimingMetricSaid : Prop := timingMetricRow.holds Try.pinned (OpenSpec.ofChange timingMetricSpec)

/-- ITS FALSE NEIGHBOUR: 'it returns false'. Refute it at one input. -/
def timingMetricWrong : ChangeSpec := { name := "timingMetric", fn := fun _ => fun
  | [d1, d2, d3, d4] => { results := [.lit (.bool false)], args := [d1, d2, d3, d4] }
  | _ => none }
def TimingMetricWrongFalsely : Prop := timingMetricRow.holds Try.pinned (OpenSpec.ofChange timingMetricWrong)

/-- 'casebooklaw40.TimingForms': WHATEVER THE INPUT: true; the input reads as it did. -/
def timingFormsSpec : ChangeSpec := { name := "timingForms", fn := fun _ => fun
  | [d1, d2, d3] => { results := [.lit (.bool true)], args := [d1, d2, d3] }
  | _ => none }
def timingFormsRow : OpenClaim := { program := "ytibnaangfdohiaa", sum := "3d952b0539449dc770f15554372a2a2c9cea86a3ce830d1dcc8b2f43bb79ab0c", func := "casebook/casebooklaw40.TimingForms", spec := "timingForms", unfollowed := true, recurses := true, apart := false }
def TimingFormsSaid : Prop := timingFormsRow.holds Try.pinned (OpenSpec.ofChange timingFormsSpec)

/-- ITS FALSE NEIGHBOUR: 'it returns false'. Refute it at one input. -/
def timingFormsWrong : ChangeSpec := { name := "timingForms", fn := fun _ => fun
  | [d1, d2, d3] => { results := [.lit (.bool false)], args := [d1, d2, d3] }
  | _ => none }
def TimingFormsWrongFalsely : Prop := timingFormsRow.holds Try.pinned (OpenSpec.ofChange timingFormsWrong)

/-- 'casebooklaw40.TimingBetween': WHATEVER THE INPUT: true; the input reads as it did. -/
def timingBetweenSpec : ChangeSpec := { name := "timingBetween", fn := fun _ => fun
  | [d1, d2, d3] => { results := [.lit (.bool true)], args := [d1, d2, d3] }
  | _ => none }
def timingBetweenRow : OpenClaim := { program := "ytibnaangfdohiaa", sum := "3d952b0539449dc770f15554372a2a2c9cea86a3ce830d1dcc8b2f43bb79ab0c", func := "casebook/casebooklaw40.TimingBetween", spec := "timingBetween", unfollowed := true, recurses := true, apart := false }
def TimingBetweenSaid : Prop := timingBetweenRow.holds Try.pinned (OpenSpec.ofChange timingBetweenSpec)

/-- ITS FALSE NEIGHBOUR: 'it returns false'. Refute it at one input. -/
def timingBetweenWrong : ChangeSpec := { name := "timingBetween", fn := fun _ => fun
  | [d1, d2, d3] => { results := [.lit (.bool false)], args := [d1, d2, d3] }
  | _ => none }
def TimingBetweenWrongFalsely : Prop := timingBetweenRow.holds Try.pinned (OpenSpec.ofChange timingBetweenWrong)

/-- 'casebooklaw40.TimingAgain': WHATEVER THE INPUT: true; the input reads as it did. -/
def timingAgainSpec : ChangeSpec := { name := "timingAgain", fn := fun _ => fun
  | [d] => { results := [.lit (.bool true)], args := [d] }
  | _ => none }
def timingAgainRow : OpenClaim := { program := "ytibnaangfdohiaa", sum := "3d952b0539449dc770f15554372a2a2c9cea86a3ce830d1dcc8b2f43bb79ab0c", func := "casebook/casebooklaw40.TimingAgain", spec := "timingAgain", unfollowed := true, recurses := true, apart := false }
def TimingAgainSaid : Prop := timingAgainRow.holds Try.pinned (OpenSpec.ofChange timingAgainSpec)

/-- ITS FALSE NEIGHBOUR: 'it returns false'. Refute it at one input. -/
def timingAgainWrong : ChangeSpec := { name := "timingAgain", fn := fun _ => fun
  | [d] => { results := [.lit (.bool false)], args := [d] }
  | _ => none }
def TimingAgainWrongFalsely : Prop := timingAgainRow.holds Try.pinned (OpenSpec.ofChange timingAgainWrong)

/-- 'casebooklaw40.TimingMoved': WHATEVER THE INPUT: true; the input reads as it did. -/
def timingMovedSpec : ChangeSpec := { name := "timingMoved", fn := fun _ => fun
  | [d1, d2, d3, d4] => { results := [.lit (.bool true)], args := [d1, d2, d3, d4] }
  | _ => none }
def timingMovedRow : OpenClaim := { program := "ytibnaangfdohiaa", sum := "3d952b0539449dc770f15554372a2a2c9cea86a3ce830d1dcc8b2f43bb79ab0c", func := "casebook/casebooklaw40.TimingMoved", spec := "timingMoved", unfollowed := true, recurses := true, apart := false }
def TimingMovedSaid : Prop := timingMovedRow.holds Try.pinned (OpenSpec.ofChange timingMovedSpec)

/-- ITS FALSE NEIGHBOUR: 'it returns false'. Refute it at one input. -/
def timingMovedWrong : ChangeSpec := { name := "timingMoved", fn := fun _ => fun
  | [d1, d2, d3, d4] => { results := [.lit (.bool false)], args := [d1, d2, d3, d4] }
  | _ => none }
def TimingMovedWrongFalsely : Prop := timingMovedRow.holds Try.pinned (OpenSpec.ofChange timingMovedWrong)

/- THE SECOND FORM. 'bulk': how many values and letters a reading holds, each counted each time it is reached (what is shared counts as often as it is met; a slice's spare places count too). A statement '..UptoSaid' is the law's where the arguments, and the package variables that the reading takes, are together of bulk at most 1048576: NARROWER than '..Said'. Prove '..Said' where nothing that the law and all that it calls make is longer than what came in: it says more and counts as full. Else prove '..UptoSaid'. A law counts once. -/
mutual
def uptoBulk {H : Type} : DataW H → Nat
  | .lit (.string bytes) => bytes.length + 1
  | .lit _ => 1
  | .nil => 1
  | .ptr d => uptoBulk d + 1
  | .slice elems spare => uptoBulkAll elems + uptoBulkAll spare + 1
  | .agg parts => uptoBulkAll parts + 1
  | .iface _ d => uptoBulk d + 1
  | .map entries => uptoBulkEntries entries + 1
  | .held _ => 1
def uptoBulkAll {H : Type} : List (DataW H) → Nat
  | [] => 0
  | d :: r => uptoBulk d + uptoBulkAll r
def uptoBulkEntries {H : Type} : List (Lit × DataW H) → Nat
  | [] => 0
  | x :: r => uptoBulkEntry x + uptoBulkEntries r
def uptoBulkEntry {H : Type} : Lit × DataW H → Nat
  | (.string bytes, d) => bytes.length + uptoBulk d + 1
  | (_, d) => uptoBulk d + 1
 end
def uptoSmall : (H : Type) → List (DataW H) → Bool := fun _ ds => decide (uptoBulkAll ds ≤ 1048576)
def OpenSpec.upto (s : _root_.Go.ChangeSpec) : _root_.Go.OpenSpec := { _root_.Go.OpenSpec.ofChange s with cond := some uptoSmall }

/-- 'casebooklaw40.TimingQuantiles', WHERE WHAT IT READS IS OF BULK AT MOST 1048576: true; the input reads as it did. -/
def timingQuantilesUptoRow : OpenClaim := { program := "ytibnaangfdohiaa", sum := "3d952b0539449dc770f15554372a2a2c9cea86a3ce830d1dcc8b2f43bb79ab0c", func := "casebook/casebooklaw40.TimingQuantiles", spec := "timingQuantiles", unfollowed := true, recurses := true, apart := false, narrowed := true }
def TimingQuantilesUptoSaid : Prop := timingQuantilesUptoRow.holds Try.pinned (OpenSpec.upto timingQuantilesSpec)

/-- 'casebooklaw40.TimingSamples', WHERE WHAT IT READS IS OF BULK AT MOST 1048576: true; the input reads as it did. -/
def timingSamplesUptoRow : OpenClaim := { program := "ytibnaangfdohiaa", sum := "3d952b0539449dc770f15554372a2a2c9cea86a3ce830d1dcc8b2f43bb79ab0c", func := "casebook/casebooklaw40.TimingSamples", spec := "timingSamples", unfollowed := true, recurses := true, apart := false, narrowed := true }
def TimingSamplesUptoSaid : Prop := timingSamplesUptoRow.holds Try.pinned (OpenSpec.upto timingSamplesSpec)

/-- 'casebooklaw40.TimingDistances', WHERE WHAT IT READS IS OF BULK AT MOST 1048576: true; the input reads as it did. -/
def timingDistancesUptoRow : OpenClaim := { program := "ytibnaangfdohiaa", sum := "3d952b0539449dc770f15554372a2a2c9cea86a3ce830d1dcc8b2f43bb79ab0c", func := "casebook/casebooklaw40.TimingDistances", spec := "timingDistances", unfollowed := true, recurses := true, apart := false, narrowed := true }
def TimingDistancesUptoSaid : Prop := timingDistancesUptoRow.holds Try.pinned (OpenSpec.upto timingDistancesSpec)

/-- 'casebooklaw40.TimingMerges', WHERE WHAT IT READS IS OF BULK AT MOST 1048576: true; the input reads as it did. -/
def timingMergesUptoRow : OpenClaim := { program := "ytibnaangfdohiaa", sum := "3d952b0539449dc770f15554372a2a2c9cea86a3ce830d1dcc8b2f43bb79ab0c", func := "casebook/casebooklaw40.TimingMerges", spec := "timingMerges", unfollowed := true, recurses := true, apart := false, narrowed := true }
def TimingMergesUptoSaid : Prop := timingMergesUptoRow.holds Try.pinned (OpenSpec.upto timingMergesSpec)

/-- 'casebooklaw40.TimingMetric', WHERE WHAT IT READS IS OF BULK AT MOST 1048576: true; the input reads as it did. -/
def timingMetricUptoRow : OpenClaim := { program := "ytibnaangfdohiaa", sum := "3d952b0539449dc770f15554372a2a2c9cea86a3ce830d1dcc8b2f43bb79ab0c", func := "casebook/casebooklaw40.TimingMetric", spec := "timingMetric", unfollowed := true, recurses := true, apart := false, narrowed := true }
def TimingMetricUptoSaid : Prop := timingMetricUptoRow.holds Try.pinned (OpenSpec.upto timingMetricSpec)

/-- 'casebooklaw40.TimingForms', WHERE WHAT IT READS IS OF BULK AT MOST 1048576: true; the input reads as it did. -/
def timingFormsUptoRow : OpenClaim := { program := "ytibnaangfdohiaa", sum := "3d952b0539449dc770f15554372a2a2c9cea86a3ce830d1dcc8b2f43bb79ab0c", func := "casebook/casebooklaw40.TimingForms", spec := "timingForms", unfollowed := true, recurses := true, apart := false, narrowed := true }
def TimingFormsUptoSaid : Prop := timingFormsUptoRow.holds Try.pinned (OpenSpec.upto timingFormsSpec)

/-- 'casebooklaw40.TimingBetween', WHERE WHAT IT READS IS OF BULK AT MOST 1048576: true; the input reads as it did. -/
def timingBetweenUptoRow : OpenClaim := { program := "ytibnaangfdohiaa", sum := "3d952b0539449dc770f15554372a2a2c9cea86a3ce830d1dcc8b2f43bb79ab0c", func := "casebook/casebooklaw40.TimingBetween", spec := "timingBetween", unfollowed := true, recurses := true, apart := false, narrowed := true }
def TimingBetweenUptoSaid : Prop := timingBetweenUptoRow.holds Try.pinned (OpenSpec.upto timingBetweenSpec)

/-- 'casebooklaw40.TimingAgain', WHERE WHAT IT READS IS OF BULK AT MOST 1048576: true; the input reads as it did. -/
def timingAgainUptoRow : OpenClaim := { program := "ytibnaangfdohiaa", sum := "3d952b0539449dc770f15554372a2a2c9cea86a3ce830d1dcc8b2f43bb79ab0c", func := "casebook/casebooklaw40.TimingAgain", spec := "timingAgain", unfollowed := true, recurses := true, apart := false, narrowed := true }
def TimingAgainUptoSaid : Prop := timingAgainUptoRow.holds Try.pinned (OpenSpec.upto timingAgainSpec)

/-- 'casebooklaw40.TimingMoved', WHERE WHAT IT READS IS OF BULK AT MOST 1048576: true; the input reads as it did. -/
def timingMovedUptoRow : OpenClaim := { program := "ytibnaangfdohiaa", sum := "3d952b0539449dc770f15554372a2a2c9cea86a3ce830d1dcc8b2f43bb79ab0c", func := "casebook/casebooklaw40.TimingMoved", spec := "timingMoved", unfollowed := true, recurses := true, apart := false, narrowed := true }
def TimingMovedUptoSaid : Prop := timingMovedUptoRow.holds Try.pinned (OpenSpec.upto timingMovedSpec)

end Rows
end Go.Proofs.Ytibnaangfdohiaa
