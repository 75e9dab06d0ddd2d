/-
  No cell of these rows narrows 'for every input' (looked for: loops, veiled, ifaces, maps, wideKeys, modest, calm, conditions, laid).
  DERIVED. THE GIVEN ROWS OF THIS SEAT. 7 by the template 'for every input the law returns true; each argument reads behind the call as it read before'; 0 by the template 'total and deterministic' (their statements: YthemglpccpjokaaGreatTotals.lean).
  GIVEN WITH THE SEED: the statements are not yours to turn. If you find one false, say at which input.
  Laid BY PROGRAM, IN A SANDBOX (cutbox-rows.mjs): the forced cells as the released guide's own fill.sh prints them over the translation a9df29901138d924… (all of the seat's roots in one cut). By AI agents, Wed Nov 11 2026. No macro, syntax, notation, axiom, sorry.
-/
import Derived.Test.YthemglpccpjokaaGreatChecked
import GoSem.Claim
import GoSem.ClaimJoined
import GoSem.ClaimMapViews
import Derived.JoinedTies
import Derived.KernelRfl
namespace Go.Proofs.YthemglpccpjokaaGreat
/- THE CELL 'sum', in the pinned program and in every row, IS THE sha256 OF THE DUMP (.gsa) THAT YthemglpccpjokaaGreatProg.lean LOADS. Nothing in Lean hashes anything: it is a label: what it is worth is what the hold of that sum in a sandbox is worth. -/
noncomputable def Tryz.pinned : Pinned := { name := "ythemglpccpjokaagreat", sum := "a9df29901138d9245b243f22b63be081097b2ac141b98241974664d015566617", checked := Tryz.checked }
namespace Rows
def none {H : Type} : Left H := { results := [], args := [] }

/-- 'casebooklaw34.DecisionWitnesses': WHATEVER THE INPUT: true; the input reads as it did. -/
def decisionWitnessesSpec : ChangeSpec := { name := "decisionWitnesses", fn := fun _ => fun
  | [d] => { results := [.lit (.bool true)], args := [d] }
  | _ => none }
def decisionWitnessesRow : OpenClaim := { program := "ythemglpccpjokaagreat", sum := "a9df29901138d9245b243f22b63be081097b2ac141b98241974664d015566617", func := "casebook/casebooklaw34.DecisionWitnesses", spec := "decisionWitnesses", unfollowed := true, recurses := true, apart := false }
def DecisionWitnessesSaid : Prop := decisionWitnessesRow.holds Tryz.pinned (OpenSpec.ofChange decisionWitnessesSpec)

/-- ITS FALSE NEIGHBOUR: 'it returns false'. Refute it at one input. -/
def decisionWitnessesWrong : ChangeSpec := { name := "decisionWitnesses", fn := fun _ => fun
  | [d] => { results := [.lit (.bool false)], args := [d] }
  | _ => none }
def DecisionWitnessesWrongFalsely : Prop := decisionWitnessesRow.holds Tryz.pinned (OpenSpec.ofChange decisionWitnessesWrong)

/-- 'casebooklaw34.DecisionEvals': WHATEVER THE INPUT: true; the input reads as it did. -/
def decisionEvalsSpec : ChangeSpec := { name := "decisionEvals", fn := fun _ => fun
  | [d1, d2] => { results := [.lit (.bool true)], args := [d1, d2] }
  | _ => none }
def decisionEvalsRow : OpenClaim := { program := "ythemglpccpjokaagreat", sum := "a9df29901138d9245b243f22b63be081097b2ac141b98241974664d015566617", func := "casebook/casebooklaw34.DecisionEvals", spec := "decisionEvals", unfollowed := true, recurses := true, apart := false }
def DecisionEvalsSaid : Prop := decisionEvalsRow.holds Tryz.pinned (OpenSpec.ofChange decisionEvalsSpec)

/-- ITS FALSE NEIGHBOUR: 'it returns false'. Refute it at one input. -/
def decisionEvalsWrong : ChangeSpec := { name := "decisionEvals", fn := fun _ => fun
  | [d1, d2] => { results := [.lit (.bool false)], args := [d1, d2] }
  | _ => none }
def DecisionEvalsWrongFalsely : Prop := decisionEvalsRow.holds Tryz.pinned (OpenSpec.ofChange decisionEvalsWrong)

/-- 'casebooklaw34.DecisionComplete': WHATEVER THE INPUT: true; the input reads as it did. -/
def decisionCompleteSpec : ChangeSpec := { name := "decisionComplete", fn := fun _ => fun
  | [d] => { results := [.lit (.bool true)], args := [d] }
  | _ => none }
def decisionCompleteRow : OpenClaim := { program := "ythemglpccpjokaagreat", sum := "a9df29901138d9245b243f22b63be081097b2ac141b98241974664d015566617", func := "casebook/casebooklaw34.DecisionComplete", spec := "decisionComplete", unfollowed := true, recurses := true, apart := false }
def DecisionCompleteSaid : Prop := decisionCompleteRow.holds Tryz.pinned (OpenSpec.ofChange decisionCompleteSpec)

/-- ITS FALSE NEIGHBOUR: 'it returns false'. Refute it at one input. -/
def decisionCompleteWrong : ChangeSpec := { name := "decisionComplete", fn := fun _ => fun
  | [d] => { results := [.lit (.bool false)], args := [d] }
  | _ => none }
def DecisionCompleteWrongFalsely : Prop := decisionCompleteRow.holds Tryz.pinned (OpenSpec.ofChange decisionCompleteWrong)

/-- 'casebooklaw34.DecisionEquals': WHATEVER THE INPUT: true; the input reads as it did. -/
def decisionEqualsSpec : ChangeSpec := { name := "decisionEquals", fn := fun _ => fun
  | [d1, d2] => { results := [.lit (.bool true)], args := [d1, d2] }
  | _ => none }
def decisionEqualsRow : OpenClaim := { program := "ythemglpccpjokaagreat", sum := "a9df29901138d9245b243f22b63be081097b2ac141b98241974664d015566617", func := "casebook/casebooklaw34.DecisionEquals", spec := "decisionEquals", unfollowed := true, recurses := true, apart := false }
def DecisionEqualsSaid : Prop := decisionEqualsRow.holds Tryz.pinned (OpenSpec.ofChange decisionEqualsSpec)

/-- ITS FALSE NEIGHBOUR: 'it returns false'. Refute it at one input. -/
def decisionEqualsWrong : ChangeSpec := { name := "decisionEquals", fn := fun _ => fun
  | [d1, d2] => { results := [.lit (.bool false)], args := [d1, d2] }
  | _ => none }
def DecisionEqualsWrongFalsely : Prop := decisionEqualsRow.holds Tryz.pinned (OpenSpec.ofChange decisionEqualsWrong)

/-- 'casebooklaw34.DecisionMatches': WHATEVER THE INPUT: true; the input reads as it did. -/
def decisionMatchesSpec : ChangeSpec := { name := "decisionMatches", fn := fun _ => fun
  | [d1, d2, d3, d4, d5] => { results := [.lit (.bool true)], args := [d1, d2, d3, d4, d5] }
  | _ => none }
def decisionMatchesRow : OpenClaim := { program := "ythemglpccpjokaagreat", sum := "a9df29901138d9245b243f22b63be081097b2ac141b98241974664d015566617", func := "casebook/casebooklaw34.DecisionMatches", spec := "decisionMatches", unfollowed := true, recurses := true, apart := false }
def DecisionMatchesSaid : Prop := decisionMatchesRow.holds Tryz.pinned (OpenSpec.ofChange decisionMatchesSpec)

/-- ITS FALSE NEIGHBOUR: 'it returns false'. Refute it at one input. -/
def decisionMatchesWrong : ChangeSpec := { name := "decisionMatches", fn := fun _ => fun
  | [d1, d2, d3, d4, d5] => { results := [.lit (.bool false)], args := [d1, d2, d3, d4, d5] }
  | _ => none }
def DecisionMatchesWrongFalsely : Prop := decisionMatchesRow.holds Tryz.pinned (OpenSpec.ofChange decisionMatchesWrong)

/-- 'casebooklaw34.DecisionCompressed': WHATEVER THE INPUT: true; the input reads as it did. -/
def decisionCompressedSpec : ChangeSpec := { name := "decisionCompressed", fn := fun _ => fun
  | [d] => { results := [.lit (.bool true)], args := [d] }
  | _ => none }
def decisionCompressedRow : OpenClaim := { program := "ythemglpccpjokaagreat", sum := "a9df29901138d9245b243f22b63be081097b2ac141b98241974664d015566617", func := "casebook/casebooklaw34.DecisionCompressed", spec := "decisionCompressed", unfollowed := true, recurses := true, apart := false }
def DecisionCompressedSaid : Prop := decisionCompressedRow.holds Tryz.pinned (OpenSpec.ofChange decisionCompressedSpec)

/-- ITS FALSE NEIGHBOUR: 'it returns false'. Refute it at one input. -/
def decisionCompressedWrong : ChangeSpec := { name := "decisionCompressed", fn := fun _ => fun
  | [d] => { results := [.lit (.bool false)], args := [d] }
  | _ => none }
def DecisionCompressedWrongFalsely : Prop := decisionCompressedRow.holds Tryz.pinned (OpenSpec.ofChange decisionCompressedWrong)

/-- 'casebooklaw34.DecisionOrder': WHATEVER THE INPUT: true; the input reads as it did. -/
def decisionOrderSpec : ChangeSpec := { name := "decisionOrder", fn := fun _ => fun
  | [d1, d2, d3] => { results := [.lit (.bool true)], args := [d1, d2, d3] }
  | _ => none }
def decisionOrderRow : OpenClaim := { program := "ythemglpccpjokaagreat", sum := "a9df29901138d9245b243f22b63be081097b2ac141b98241974664d015566617", func := "casebook/casebooklaw34.DecisionOrder", spec := "decisionOrder", unfollowed := true, recurses := true, apart := false }
def DecisionOrderSaid : Prop := decisionOrderRow.holds Tryz.pinned (OpenSpec.ofChange decisionOrderSpec)

/-- ITS FALSE NEIGHBOUR: 'it returns false'. Refute it at one input. -/
def decisionOrderWrong : ChangeSpec := { name := "decisionOrder", fn := fun _ => fun
  | [d1, d2, d3] => { results := [.lit (.bool false)], args := [d1, d2, d3] }
  | _ => none }
def DecisionOrderWrongFalsely : Prop := decisionOrderRow.holds Tryz.pinned (OpenSpec.ofChange decisionOrderWrong)

/- THE SECOND FORM. 'bulk': how many values and letters a reading holds, each counted each time it is reached (what is shared counts as often as it is met; a slice's spare places count too). A statement '..UptoSaid' is the law's where the arguments, and the package variables that the reading takes, are together of bulk at most 1048576: NARROWER than '..Said'. Prove '..Said' where nothing that the law and all that it calls make is longer than what came in: it says more and counts as full. Else prove '..UptoSaid'. A law counts once. -/
mutual
def uptoBulk {H : Type} : DataW H → Nat
  | .lit (.string bytes) => bytes.length + 1
  | .lit _ => 1
  | .nil => 1
  | .ptr d => uptoBulk d + 1
  | .slice elems spare => uptoBulkAll elems + uptoBulkAll spare + 1
  | .agg parts => uptoBulkAll parts + 1
  | .iface _ d => uptoBulk d + 1
  | .map entries => uptoBulkEntries entries + 1
  | .held _ => 1
def uptoBulkAll {H : Type} : List (DataW H) → Nat
  | [] => 0
  | d :: r => uptoBulk d + uptoBulkAll r
def uptoBulkEntries {H : Type} : List (Lit × DataW H) → Nat
  | [] => 0
  | x :: r => uptoBulkEntry x + uptoBulkEntries r
def uptoBulkEntry {H : Type} : Lit × DataW H → Nat
  | (.string bytes, d) => bytes.length + uptoBulk d + 1
  | (_, d) => uptoBulk d + 1
 end
def uptoSmall : (H : Type) → List (DataW H) → Bool := fun _ ds => decide (uptoBulkAll ds ≤ 1048576)
def OpenSpec.upto (s : _root_.Go.ChangeSpec) : _root_.Go.OpenSpec := { _root_.Go.OpenSpec.ofChange s with cond := some uptoSmall }

/-- 'casebooklaw34.DecisionWitnesses', WHERE WHAT IT READS IS OF BULK AT MOST 1048576: true; the input reads as it did. -/
def decisionWitnessesUptoRow : OpenClaim := { program := "ythemglpccpjokaagreat", sum := "a9df29901138d9245b243f22b63be081097b2ac141b98241974664d015566617", func := "casebook/casebooklaw34.DecisionWitnesses", spec := "decisionWitnesses", unfollowed := true, recurses := true, apart := false, narrowed := true }
def DecisionWitnessesUptoSaid : Prop := decisionWitnessesUptoRow.holds Tryz.pinned (OpenSpec.upto decisionWitnessesSpec)

/-- 'casebooklaw34.DecisionEvals', WHERE WHAT IT READS IS OF BULK AT MOST 1048576: true; the input reads as it did. -/
def decisionEvalsUptoRow : OpenClaim := { program := "ythemglpccpjokaagreat", sum := "a9df29901138d9245b243f22b63be081097b2ac141b98241974664d015566617", func := "casebook/casebooklaw34.DecisionEvals", spec := "decisionEvals", unfollowed := true, recurses := true, apart := false, narrowed := true }
def DecisionEvalsUptoSaid : Prop := decisionEvalsUptoRow.holds Tryz.pinned (OpenSpec.upto decisionEvalsSpec)

/-- 'casebooklaw34.DecisionComplete', WHERE WHAT IT READS IS OF BULK AT MOST 1048576: true; the input reads as it did. -/
def decisionCompleteUptoRow : OpenClaim := { program := "ythemglpccpjokaagreat", sum := "a9df29901138d9245b243f22b63be081097b2ac141b98241974664d015566617", func := "casebook/casebooklaw34.DecisionComplete", spec := "decisionComplete", unfollowed := true, recurses := true, apart := false, narrowed := true }
def DecisionCompleteUptoSaid : Prop := decisionCompleteUptoRow.holds Tryz.pinned (OpenSpec.upto decisionCompleteSpec)

/-- 'casebooklaw34.DecisionEquals', WHERE WHAT IT READS IS OF BULK AT MOST 1048576: true; the input reads as it did. -/
def decisionEqualsUptoRow : OpenClaim := { program := "ythemglpccpjokaagreat", sum := "a9df29901138d9245b243f22b63be081097b2ac141b98241974664d015566617", func := "casebook/casebooklaw34.DecisionEquals", spec := "decisionEquals", unfollowed := true, recurses := true, apart := false, narrowed := true }
def DecisionEqualsUptoSaid : Prop := decisionEqualsUptoRow.holds Tryz.pinned (OpenSpec.upto decisionEqualsSpec)

/-- 'casebooklaw34.DecisionMatches', WHERE WHAT IT READS IS OF BULK AT MOST 1048576: true; the input reads as it did. -/
def decisionMatchesUptoRow : OpenClaim := { program := "ythemglpccpjokaagreat", sum := "a9df29901138d9245b243f22b63be081097b2ac141b98241974664d015566617", func := "casebook/casebooklaw34.DecisionMatches", spec := "decisionMatches", unfollowed := true, recurses := true, apart := false, narrowed := true }
def DecisionMatchesUptoSaid : Prop := decisionMatchesUptoRow.holds Tryz.pinned (OpenSpec.upto decisionMatchesSpec)

/-- 'casebooklaw34.DecisionCompressed', WHERE WHAT IT READS IS OF BULK AT MOST 1048576: true; the input reads as it did. -/
def decisionCompressedUptoRow : OpenClaim := { program := "ythemglpccpjokaagreat", sum := "a9df29901138d9245b243f22b63be081097b2ac141b98241974664d015566617", func := "casebook/casebooklaw34.DecisionCompressed", spec := "decisionCompressed", unfollowed := true, recurses := true, apart := false, narrowed := true }
def DecisionCompressedUptoSaid : Prop := decisionCompressedUptoRow.holds Tryz.pinned (OpenSpec.upto decisionCompressedSpec)

/-- 'casebooklaw34.DecisionOrder', WHERE WHAT IT READS IS OF BULK AT MOST 1048576: true; the input reads as it did. -/
def decisionOrderUptoRow : OpenClaim := { program := "ythemglpccpjokaagreat", sum := "a9df29901138d9245b243f22b63be081097b2ac141b98241974664d015566617", func := "casebook/casebooklaw34.DecisionOrder", spec := "decisionOrder", unfollowed := true, recurses := true, apart := false, narrowed := true }
def DecisionOrderUptoSaid : Prop := decisionOrderUptoRow.holds Tryz.pinned (OpenSpec.upto decisionOrderSpec)

end Rows
end Go.Proofs.YthemglpccpjokaaGreat
