/-
  No cell of these rows narrows 'for every input' (looked for: loops, veiled, ifaces, maps, wideKeys, modest, calm, conditions, laid).
  DERIVED. THE GIVEN ROWS OF THIS SEAT. 6 by the template 'for every input the law returns true; each argument reads behind the call as it read before'; 0 by the template 'total and deterministic' (their statements: YtfbpjlabhckoeaaTotals.lean).
  GIVEN WITH THE SEED: the statements are not yours to turn. If you find one false, say at which input.
  Laid BY PROGRAM, IN A SANDBOX (cutbox-rows.mjs): the forced cells as the released guide's own fill.sh prints them over the translation b31638ac4e3a89bc… (all of the seat's roots in one cut). By AI agents, Wed Nov 11 2026. No macro, syntax, notation, axiom, sorry.
-/
import Derived.Test.YtfbpjlabhckoeaaChecked
import GoSem.Claim
import GoSem.ClaimJoined
import GoSem.ClaimMapViews
import Derived.JoinedTies
import Derived.KernelRfl
namespace Go.Proofs.Ytfbpjlabhckoeaa
/- THE CELL 'sum', in the pinned program and in every row, IS THE sha256 OF THE DUMP (.gsa) THAT YtfbpjlabhckoeaaProg.lean LOADS. Nothing in Lean hashes anything: it is a label: what it is worth is what the hold of that sum in a sandbox is worth. -/
noncomputable def Try.pinned : Pinned := { name := "ytfbpjlabhckoeaa", sum := "b31638ac4e3a89bcffa8ad70b2e2cea8d7e664427d9e6d876c56f99534f7692f", checked := Try.checked }
namespace Rows
def none {H : Type} : Left H := { results := [], args := [] }

/-- 'casebooklaw18.SpansInstances': WHATEVER THE INPUT: true; the input reads as it did. -/
def spansInstancesSpec : ChangeSpec := { name := "spansInstances", fn := fun _ => fun
  | [d1, d2] => { results := [.lit (.bool true)], args := [d1, d2] }
  | _ => none }
def spansInstancesRow : OpenClaim := { program := "ytfbpjlabhckoeaa", sum := "b31638ac4e3a89bcffa8ad70b2e2cea8d7e664427d9e6d876c56f99534f7692f", func := "casebook/casebooklaw18.SpansInstances", spec := "spansInstances", unfollowed := true, recurses := true, plainKeys := false, apart := false }
def SpansInstancesSaid : Prop := spansInstancesRow.holds Try.pinned (OpenSpec.ofChange spansInstancesSpec)

/-- ITS FALSE NEIGHBOUR: 'it returns false'. Refute it at one input. -/
def spansInstancesWrong : ChangeSpec := { name := "spansInstances", fn := fun _ => fun
  | [d1, d2] => { results := [.lit (.bool false)], args := [d1, d2] }
  | _ => none }
def SpansInstancesWrongFalsely : Prop := spansInstancesRow.holds Try.pinned (OpenSpec.ofChange spansInstancesWrong)

/-- 'casebooklaw18.SpansRows': WHATEVER THE INPUT: true; the input reads as it did. -/
def spansRowsSpec : ChangeSpec := { name := "spansRows", fn := fun _ => fun
  | [d] => { results := [.lit (.bool true)], args := [d] }
  | _ => none }
def spansRowsRow : OpenClaim := { program := "ytfbpjlabhckoeaa", sum := "b31638ac4e3a89bcffa8ad70b2e2cea8d7e664427d9e6d876c56f99534f7692f", func := "casebook/casebooklaw18.SpansRows", spec := "spansRows", unfollowed := true, recurses := true, plainKeys := false, apart := false }
def SpansRowsSaid : Prop := spansRowsRow.holds Try.pinned (OpenSpec.ofChange spansRowsSpec)

/-- ITS FALSE NEIGHBOUR: 'it returns false'. Refute it at one input. -/
def spansRowsWrong : ChangeSpec := { name := "spansRows", fn := fun _ => fun
  | [d] => { results := [.lit (.bool false)], args := [d] }
  | _ => none }
def SpansRowsWrongFalsely : Prop := spansRowsRow.holds Try.pinned (OpenSpec.ofChange spansRowsWrong)

/-- 'casebooklaw18.SpansChart': WHATEVER THE INPUT: true; the input reads as it did. -/
def spansChartSpec : ChangeSpec := { name := "spansChart", fn := fun _ => fun
  | [d] => { results := [.lit (.bool true)], args := [d] }
  | _ => none }
def spansChartRow : OpenClaim := { program := "ytfbpjlabhckoeaa", sum := "b31638ac4e3a89bcffa8ad70b2e2cea8d7e664427d9e6d876c56f99534f7692f", func := "casebook/casebooklaw18.SpansChart", spec := "spansChart", unfollowed := true, recurses := true, plainKeys := false, apart := false }
def SpansChartSaid : Prop := spansChartRow.holds Try.pinned (OpenSpec.ofChange spansChartSpec)

/-- ITS FALSE NEIGHBOUR: 'it returns false'. Refute it at one input. -/
def spansChartWrong : ChangeSpec := { name := "spansChart", fn := fun _ => fun
  | [d] => { results := [.lit (.bool false)], args := [d] }
  | _ => none }
def SpansChartWrongFalsely : Prop := spansChartRow.holds Try.pinned (OpenSpec.ofChange spansChartWrong)

/-- 'casebooklaw18.SpansLives': WHATEVER THE INPUT: true; the input reads as it did. -/
def spansLivesSpec : ChangeSpec := { name := "spansLives", fn := fun _ => fun
  | [d1, d2] => { results := [.lit (.bool true)], args := [d1, d2] }
  | _ => none }
def spansLivesRow : OpenClaim := { program := "ytfbpjlabhckoeaa", sum := "b31638ac4e3a89bcffa8ad70b2e2cea8d7e664427d9e6d876c56f99534f7692f", func := "casebook/casebooklaw18.SpansLives", spec := "spansLives", unfollowed := true, recurses := true, plainKeys := false, apart := false }
def SpansLivesSaid : Prop := spansLivesRow.holds Try.pinned (OpenSpec.ofChange spansLivesSpec)

/-- ITS FALSE NEIGHBOUR: 'it returns false'. Refute it at one input. -/
def spansLivesWrong : ChangeSpec := { name := "spansLives", fn := fun _ => fun
  | [d1, d2] => { results := [.lit (.bool false)], args := [d1, d2] }
  | _ => none }
def SpansLivesWrongFalsely : Prop := spansLivesRow.holds Try.pinned (OpenSpec.ofChange spansLivesWrong)

/-- 'casebooklaw18.SpansWaiting': WHATEVER THE INPUT: true; the input reads as it did. -/
def spansWaitingSpec : ChangeSpec := { name := "spansWaiting", fn := fun _ => fun
  | [d1, d2] => { results := [.lit (.bool true)], args := [d1, d2] }
  | _ => none }
def spansWaitingRow : OpenClaim := { program := "ytfbpjlabhckoeaa", sum := "b31638ac4e3a89bcffa8ad70b2e2cea8d7e664427d9e6d876c56f99534f7692f", func := "casebook/casebooklaw18.SpansWaiting", spec := "spansWaiting", unfollowed := true, recurses := true, plainKeys := false, apart := false }
def SpansWaitingSaid : Prop := spansWaitingRow.holds Try.pinned (OpenSpec.ofChange spansWaitingSpec)

/-- ITS FALSE NEIGHBOUR: 'it returns false'. Refute it at one input. -/
def spansWaitingWrong : ChangeSpec := { name := "spansWaiting", fn := fun _ => fun
  | [d1, d2] => { results := [.lit (.bool false)], args := [d1, d2] }
  | _ => none }
def SpansWaitingWrongFalsely : Prop := spansWaitingRow.holds Try.pinned (OpenSpec.ofChange spansWaitingWrong)

/-- 'casebooklaw18.SpansUnions': WHATEVER THE INPUT: true; the input reads as it did. -/
def spansUnionsSpec : ChangeSpec := { name := "spansUnions", fn := fun _ => fun
  | [d1, d2, d3] => { results := [.lit (.bool true)], args := [d1, d2, d3] }
  | _ => none }
def spansUnionsRow : OpenClaim := { program := "ytfbpjlabhckoeaa", sum := "b31638ac4e3a89bcffa8ad70b2e2cea8d7e664427d9e6d876c56f99534f7692f", func := "casebook/casebooklaw18.SpansUnions", spec := "spansUnions", unfollowed := true, recurses := true, plainKeys := false, apart := false }
def SpansUnionsSaid : Prop := spansUnionsRow.holds Try.pinned (OpenSpec.ofChange spansUnionsSpec)

/-- ITS FALSE NEIGHBOUR: 'it returns false'. Refute it at one input. -/
def spansUnionsWrong : ChangeSpec := { name := "spansUnions", fn := fun _ => fun
  | [d1, d2, d3] => { results := [.lit (.bool false)], args := [d1, d2, d3] }
  | _ => none }
def SpansUnionsWrongFalsely : Prop := spansUnionsRow.holds Try.pinned (OpenSpec.ofChange spansUnionsWrong)

/- THE SECOND FORM. 'bulk': how many values and letters a reading holds, each counted each time it is reached (what is shared counts as often as it is met; a slice's spare places count too). A statement '..UptoSaid' is the law's where the arguments, and the package variables that the reading takes, are together of bulk at most 1048576: NARROWER than '..Said'. Prove '..Said' where nothing that the law and all that it calls make is longer than what came in: it says more and counts as full. Else prove '..UptoSaid'. A law counts once. -/
mutual
def uptoBulk {H : Type} : DataW H → Nat
  | .lit (.string bytes) => bytes.length + 1
  | .lit _ => 1
  | .nil => 1
  | .ptr d => uptoBulk d + 1
  | .slice elems spare => uptoBulkAll elems + uptoBulkAll spare + 1
  | .agg parts => uptoBulkAll parts + 1
  | .iface _ d => uptoBulk d + 1
  | .map entries => uptoBulkEntries entries + 1
  | .held _ => 1
def uptoBulkAll {H : Type} : List (DataW H) → Nat
  | [] => 0
  | d :: r => uptoBulk d + uptoBulkAll r
def uptoBulkEntries {H : Type} : List (Lit × DataW H) → Nat
  | [] => 0
  | x :: r => uptoBulkEntry x + uptoBulkEntries r
def uptoBulkEntry {H : Type} : Lit × DataW H → Nat
  | (.string bytes, d) => bytes.length + uptoBulk d + 1
  | (_, d) => uptoBulk d + 1
 end
def uptoSmall : (H : Type) → List (DataW H) → Bool := fun _ ds => decide (uptoBulkAll ds ≤ 1048576)
def OpenSpec.upto (s : _root_.Go.ChangeSpec) : _root_.Go.OpenSpec := { _root_.Go.OpenSpec.ofChange s with cond := some uptoSmall }

/-- 'casebooklaw18.SpansInstances', WHERE WHAT IT READS IS OF BULK AT MOST 1048576: true; the input reads as it did. -/
def spansInstancesUptoRow : OpenClaim := { program := "ytfbpjlabhckoeaa", sum := "b31638ac4e3a89bcffa8ad70b2e2cea8d7e664427d9e6d876c56f99534f7692f", func := "casebook/casebooklaw18.SpansInstances", spec := "spansInstances", unfollowed := true, recurses := true, plainKeys := false, apart := false, narrowed := true }
def SpansInstancesUptoSaid : Prop := spansInstancesUptoRow.holds Try.pinned (OpenSpec.upto spansInstancesSpec)

/-- 'casebooklaw18.SpansRows', WHERE WHAT IT READS IS OF BULK AT MOST 1048576: true; the input reads as it did. -/
def spansRowsUptoRow : OpenClaim := { program := "ytfbpjlabhckoeaa", sum := "b31638ac4e3a89bcffa8ad70b2e2cea8d7e664427d9e6d876c56f99534f7692f", func := "casebook/casebooklaw18.SpansRows", spec := "spansRows", unfollowed := true, recurses := true, plainKeys := false, apart := false, narrowed := true }
def SpansRowsUptoSaid : Prop := spansRowsUptoRow.holds Try.pinned (OpenSpec.upto spansRowsSpec)

/-- 'casebooklaw18.SpansChart', WHERE WHAT IT READS IS OF BULK AT MOST 1048576: true; the input reads as it did. -/
def spansChartUptoRow : OpenClaim := { program := "ytfbpjlabhckoeaa", sum := "b31638ac4e3a89bcffa8ad70b2e2cea8d7e664427d9e6d876c56f99534f7692f", func := "casebook/casebooklaw18.SpansChart", spec := "spansChart", unfollowed := true, recurses := true, plainKeys := false, apart := false, narrowed := true }
def SpansChartUptoSaid : Prop := spansChartUptoRow.holds Try.pinned (OpenSpec.upto spansChartSpec)

/-- 'casebooklaw18.SpansLives', WHERE WHAT IT READS IS OF BULK AT MOST 1048576: true; the input reads as it did. -/
def spansLivesUptoRow : OpenClaim := { program := "ytfbpjlabhckoeaa", sum := "b31638ac4e3a89bcffa8ad70b2e2cea8d7e664427d9e6d876c56f99534f7692f", func := "casebook/casebooklaw18.SpansLives", spec := "spansLives", unfollowed := true, recurses := true, plainKeys := false, apart := false, narrowed := true }
def SpansLivesUptoSaid : Prop := spansLivesUptoRow.holds Try.pinned (OpenSpec.upto spansLivesSpec)

/-- 'casebooklaw18.SpansWaiting', WHERE WHAT IT READS IS OF BULK AT MOST 1048576: true; the input reads as it did. -/
def spansWaitingUptoRow : OpenClaim := { program := "ytfbpjlabhckoeaa", sum := "b31638ac4e3a89bcffa8ad70b2e2cea8d7e664427d9e6d876c56f99534f7692f", func := "casebook/casebooklaw18.SpansWaiting", spec := "spansWaiting", unfollowed := true, recurses := true, plainKeys := false, apart := false, narrowed := true }
def SpansWaitingUptoSaid : Prop := spansWaitingUptoRow.holds Try.pinned (OpenSpec.upto spansWaitingSpec)

/-- 'casebooklaw18.SpansUnions', WHERE WHAT IT READS IS OF BULK AT MOST 1048576: true; the input reads as it did. -/
def spansUnionsUptoRow : OpenClaim := { program := "ytfbpjlabhckoeaa", sum := "b31638ac4e3a89bcffa8ad70b2e2cea8d7e664427d9e6d876c56f99534f7692f", func := "casebook/casebooklaw18.SpansUnions", spec := "spansUnions", unfollowed := true, recurses := true, plainKeys := false, apart := false, narrowed := true }
def SpansUnionsUptoSaid : Prop := spansUnionsUptoRow.holds Try.pinned (OpenSpec.upto spansUnionsSpec)

end Rows
end Go.Proofs.Ytfbpjlabhckoeaa
