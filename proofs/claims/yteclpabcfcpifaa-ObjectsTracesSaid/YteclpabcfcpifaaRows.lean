/-
  No cell of these rows narrows 'for every input' (looked for: loops, veiled, ifaces, maps, wideKeys, modest, calm, conditions, laid).
  DERIVED. THE GIVEN ROWS OF THIS SEAT. 4 by the template 'for every input the law returns true; each argument reads behind the call as it read before'; 0 by the template 'total and deterministic' (their statements: YteclpabcfcpifaaTotals.lean).
  GIVEN WITH THE SEED: the statements are not yours to turn. If you find one false, say at which input.
  Laid BY PROGRAM, IN A SANDBOX (cutbox-rows.mjs): the forced cells as the released guide's own fill.sh prints them over the translation b511765a3d68a27b… (all of the seat's roots in one cut). By AI agents, Wed Nov 11 2026. No macro, syntax, notation, axiom, sorry.
-/
import Derived.Test.YteclpabcfcpifaaChecked
import GoSem.Claim
import GoSem.ClaimJoined
import GoSem.ClaimMapViews
import Derived.JoinedTies
import Derived.KernelRfl
namespace Go.Proofs.Yteclpabcfcpifaa
/- THE CELL 'sum', in the pinned program and in every row, IS THE sha256 OF THE DUMP (.gsa) THAT YteclpabcfcpifaaProg.lean LOADS. Nothing in Lean hashes anything: it is a label: what it is worth is what the hold of that sum in a sandbox is worth. -/
noncomputable def Try.pinned : Pinned := { name := "yteclpabcfcpifaa", sum := "b511765a3d68a27b24d757bb8a581afe7e954eb4c80abe647a5a47b1477af53b", checked := Try.checked }
namespace Rows
def none {H : Type} : Left H := { results := [], args := [] }

/-- 'casebooklaw14.ObjectsCounts': WHATEVER THE INPUT: true; the input reads as it did. -/
def objectsCountsSpec : ChangeSpec := { name := "objectsCounts", fn := fun _ => fun
  | [d1, d2, d3] => { results := [.lit (.bool true)], args := [d1, d2, d3] }
  | _ => none }
def objectsCountsRow : OpenClaim := { program := "yteclpabcfcpifaa", sum := "b511765a3d68a27b24d757bb8a581afe7e954eb4c80abe647a5a47b1477af53b", func := "casebook/casebooklaw14.ObjectsCounts", spec := "objectsCounts", inPlace := ["internal/bytealg.abigen_runtime_cmpstring"], unfollowed := true, recurses := true, plainKeys := false, apart := false }
def ObjectsCountsSaid : Prop := objectsCountsRow.holds Try.pinned (OpenSpec.ofChange objectsCountsSpec)

/-- ITS FALSE NEIGHBOUR: 'it returns false'. Refute it at one input. -/
def objectsCountsWrong : ChangeSpec := { name := "objectsCounts", fn := fun _ => fun
  | [d1, d2, d3] => { results := [.lit (.bool false)], args := [d1, d2, d3] }
  | _ => none }
def ObjectsCountsWrongFalsely : Prop := objectsCountsRow.holds Try.pinned (OpenSpec.ofChange objectsCountsWrong)

/-- 'casebooklaw14.ObjectsParts': WHATEVER THE INPUT: true; the input reads as it did. -/
def objectsPartsSpec : ChangeSpec := { name := "objectsParts", fn := fun _ => fun
  | [d1, d2] => { results := [.lit (.bool true)], args := [d1, d2] }
  | _ => none }
def objectsPartsRow : OpenClaim := { program := "yteclpabcfcpifaa", sum := "b511765a3d68a27b24d757bb8a581afe7e954eb4c80abe647a5a47b1477af53b", func := "casebook/casebooklaw14.ObjectsParts", spec := "objectsParts", inPlace := ["internal/bytealg.abigen_runtime_cmpstring"], unfollowed := true, recurses := true, plainKeys := false, apart := false }
def ObjectsPartsSaid : Prop := objectsPartsRow.holds Try.pinned (OpenSpec.ofChange objectsPartsSpec)

/-- ITS FALSE NEIGHBOUR: 'it returns false'. Refute it at one input. -/
def objectsPartsWrong : ChangeSpec := { name := "objectsParts", fn := fun _ => fun
  | [d1, d2] => { results := [.lit (.bool false)], args := [d1, d2] }
  | _ => none }
def ObjectsPartsWrongFalsely : Prop := objectsPartsRow.holds Try.pinned (OpenSpec.ofChange objectsPartsWrong)

/-- 'casebooklaw14.ObjectsFlatten': WHATEVER THE INPUT: true; the input reads as it did. -/
def objectsFlattenSpec : ChangeSpec := { name := "objectsFlatten", fn := fun _ => fun
  | [d1, d2] => { results := [.lit (.bool true)], args := [d1, d2] }
  | _ => none }
def objectsFlattenRow : OpenClaim := { program := "yteclpabcfcpifaa", sum := "b511765a3d68a27b24d757bb8a581afe7e954eb4c80abe647a5a47b1477af53b", func := "casebook/casebooklaw14.ObjectsFlatten", spec := "objectsFlatten", inPlace := ["internal/bytealg.abigen_runtime_cmpstring"], unfollowed := true, recurses := true, plainKeys := false, apart := false }
def ObjectsFlattenSaid : Prop := objectsFlattenRow.holds Try.pinned (OpenSpec.ofChange objectsFlattenSpec)

/-- ITS FALSE NEIGHBOUR: 'it returns false'. Refute it at one input. -/
def objectsFlattenWrong : ChangeSpec := { name := "objectsFlatten", fn := fun _ => fun
  | [d1, d2] => { results := [.lit (.bool false)], args := [d1, d2] }
  | _ => none }
def ObjectsFlattenWrongFalsely : Prop := objectsFlattenRow.holds Try.pinned (OpenSpec.ofChange objectsFlattenWrong)

/-- 'casebooklaw14.ObjectsTraces': WHATEVER THE INPUT: true; the input reads as it did. -/
def objectsTracesSpec : ChangeSpec := { name := "objectsTraces", fn := fun _ => fun
  | [d1, d2] => { results := [.lit (.bool true)], args := [d1, d2] }
  | _ => none }
def objectsTracesRow : OpenClaim := { program := "yteclpabcfcpifaa", sum := "b511765a3d68a27b24d757bb8a581afe7e954eb4c80abe647a5a47b1477af53b", func := "casebook/casebooklaw14.ObjectsTraces", spec := "objectsTraces", inPlace := ["internal/bytealg.abigen_runtime_cmpstring"], unfollowed := true, recurses := true, plainKeys := false, apart := false }
def ObjectsTracesSaid : Prop := objectsTracesRow.holds Try.pinned (OpenSpec.ofChange objectsTracesSpec)

/-- ITS FALSE NEIGHBOUR: 'it returns false'. Refute it at one input. -/
def objectsTracesWrong : ChangeSpec := { name := "objectsTraces", fn := fun _ => fun
  | [d1, d2] => { results := [.lit (.bool false)], args := [d1, d2] }
  | _ => none }
def ObjectsTracesWrongFalsely : Prop := objectsTracesRow.holds Try.pinned (OpenSpec.ofChange objectsTracesWrong)

/- THE SECOND FORM. 'bulk': how many values and letters a reading holds, each counted each time it is reached (what is shared counts as often as it is met; a slice's spare places count too). A statement '..UptoSaid' is the law's where the arguments, and the package variables that the reading takes, are together of bulk at most 1048576: NARROWER than '..Said'. Prove '..Said' where nothing that the law and all that it calls make is longer than what came in: it says more and counts as full. Else prove '..UptoSaid'. A law counts once. -/
mutual
def uptoBulk {H : Type} : DataW H → Nat
  | .lit (.string bytes) => bytes.length + 1
  | .lit _ => 1
  | .nil => 1
  | .ptr d => uptoBulk d + 1
  | .slice elems spare => uptoBulkAll elems + uptoBulkAll spare + 1
  | .agg parts => uptoBulkAll parts + 1
  | .iface _ d => uptoBulk d + 1
  | .map entries => uptoBulkEntries entries + 1
  | .held _ => 1
def uptoBulkAll {H : Type} : List (DataW H) → Nat
  | [] => 0
  | d :: r => uptoBulk d + uptoBulkAll r
def uptoBulkEntries {H : Type} : List (Lit × DataW H) → Nat
  | [] => 0
  | x :: r => uptoBulkEntry x + uptoBulkEntries r
def uptoBulkEntry {H : Type} : Lit × DataW H → Nat
  | (.string bytes, d) => bytes.length + uptoBulk d + 1
  | (_, d) => uptoBulk d + 1
 end
def uptoSmall : (H : Type) → List (DataW H) → Bool := fun _ ds => decide (uptoBulkAll ds ≤ 1048576)
def OpenSpec.upto (s : _root_.Go.ChangeSpec) : _root_.Go.OpenSpec := { _root_.Go.OpenSpec.ofChange s with cond := some uptoSmall }

/-- 'casebooklaw14.ObjectsCounts', WHERE WHAT IT READS IS OF BULK AT MOST 1048576: true; the input reads as it did. -/
def objectsCountsUptoRow : OpenClaim := { program := "yteclpabcfcpifaa", sum := "b511765a3d68a27b24d757bb8a581afe7e954eb4c80abe647a5a47b1477af53b", func := "casebook/casebooklaw14.ObjectsCounts", spec := "objectsCounts", inPlace := ["internal/bytealg.abigen_runtime_cmpstring"], unfollowed := true, recurses := true, plainKeys := false, apart := false, narrowed := true }
def ObjectsCountsUptoSaid : Prop := objectsCountsUptoRow.holds Try.pinned (OpenSpec.upto objectsCountsSpec)

/-- 'casebooklaw14.ObjectsParts', WHERE WHAT IT READS IS OF BULK AT MOST 1048576: true; the input reads as it did. -/
def objectsPartsUptoRow : OpenClaim := { program := "yteclpabcfcpifaa", sum := "b511765a3d68a27b24d757bb8a581afe7e954eb4c80abe647a5a47b1477af53b", func := "casebook/casebooklaw14.ObjectsParts", spec := "objectsParts", inPlace := ["internal/bytealg.abigen_runtime_cmpstring"], unfollowed := true, recurses := true, plainKeys := false, apart := false, narrowed := true }
def ObjectsPartsUptoSaid : Prop := objectsPartsUptoRow.holds Try.pinned (OpenSpec.upto objectsPartsSpec)

/-- 'casebooklaw14.ObjectsFlatten', WHERE WHAT IT READS IS OF BULK AT MOST 1048576: true; the input reads as it did. -/
def objectsFlattenUptoRow : OpenClaim := { program := "yteclpabcfcpifaa", sum := "b511765a3d68a27b24d757bb8a581afe7e954eb4c80abe647a5a47b1477af53b", func := "casebook/casebooklaw14.ObjectsFlatten", spec := "objectsFlatten", inPlace := ["internal/bytealg.abigen_runtime_cmpstring"], unfollowed := true, recurses := true, plainKeys := false, apart := false, narrowed := true }
def ObjectsFlattenUptoSaid : Prop := objectsFlattenUptoRow.holds Try.pinned (OpenSpec.upto objectsFlattenSpec)

/-- 'casebooklaw14.ObjectsTraces', WHERE WHAT IT READS IS OF BULK AT MOST 1048576: true; the input reads as it did. -/
def objectsTracesUptoRow : OpenClaim := { program := "yteclpabcfcpifaa", sum := "b511765a3d68a27b24d757bb8a581afe7e954eb4c80abe647a5a47b1477af53b", func := "casebook/casebooklaw14.ObjectsTraces", spec := "objectsTraces", inPlace := ["internal/bytealg.abigen_runtime_cmpstring"], unfollowed := true, recurses := true, plainKeys := false, apart := false, narrowed := true }
def ObjectsTracesUptoSaid : Prop := objectsTracesUptoRow.holds Try.pinned (OpenSpec.upto objectsTracesSpec)

end Rows
end Go.Proofs.Yteclpabcfcpifaa
