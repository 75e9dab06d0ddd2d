/-
  No cell of these rows narrows 'for every input' (looked for: loops, veiled, ifaces, maps, wideKeys, modest, calm, conditions, laid).
  DERIVED. THE GIVEN ROWS OF THIS SEAT. 5 by the template 'for every input the law returns true; each argument reads behind the call as it read before'; 0 by the template 'total and deterministic' (their statements: YtnldjmokemgaoaaTotals.lean).
  GIVEN WITH THE SEED: the statements are not yours to turn. If you find one false, say at which input.
  Laid BY PROGRAM, IN A SANDBOX (cutbox-rows.mjs): the forced cells as the released guide's own fill.sh prints them over the translation 1095cc447ed1cf74… (all of the seat's roots in one cut). By AI agents, Wed Nov 11 2026. No macro, syntax, notation, axiom, sorry.
-/
import Derived.Test.YtnldjmokemgaoaaChecked
import GoSem.Claim
import GoSem.ClaimJoined
import GoSem.ClaimMapViews
import Derived.JoinedTies
import Derived.KernelRfl
namespace Go.Proofs.Ytnldjmokemgaoaa
/- THE CELL 'sum', in the pinned program and in every row, IS THE sha256 OF THE DUMP (.gsa) THAT YtnldjmokemgaoaaProg.lean LOADS. Nothing in Lean hashes anything: it is a label: what it is worth is what the hold of that sum in a sandbox is worth. -/
noncomputable def Try.pinned : Pinned := { name := "ytnldjmokemgaoaa", sum := "1095cc447ed1cf7430c717c8ca687dbcd1da9f26d14ad1be709569b32501287c", checked := Try.checked }
namespace Rows
def none {H : Type} : Left H := { results := [], args := [] }

/-- 'casebooklaw12.EventlogCases': WHATEVER THE INPUT: true; the input reads as it did. -/
def eventlogCasesSpec : ChangeSpec := { name := "eventlogCases", fn := fun _ => fun
  | [d] => { results := [.lit (.bool true)], args := [d] }
  | _ => none }
def eventlogCasesRow : OpenClaim := { program := "ytnldjmokemgaoaa", sum := "1095cc447ed1cf7430c717c8ca687dbcd1da9f26d14ad1be709569b32501287c", func := "casebook/casebooklaw12.EventlogCases", spec := "eventlogCases", unfollowed := true, recurses := true, apart := false }
def EventlogCasesSaid : Prop := eventlogCasesRow.holds Try.pinned (OpenSpec.ofChange eventlogCasesSpec)

/-- ITS FALSE NEIGHBOUR: 'it returns false'. Refute it at one input. -/
def eventlogCasesWrong : ChangeSpec := { name := "eventlogCases", fn := fun _ => fun
  | [d] => { results := [.lit (.bool false)], args := [d] }
  | _ => none }
def EventlogCasesWrongFalsely : Prop := eventlogCasesRow.holds Try.pinned (OpenSpec.ofChange eventlogCasesWrong)

/-- 'casebooklaw12.EventlogForms': WHATEVER THE INPUT: true; the input reads as it did. -/
def eventlogFormsSpec : ChangeSpec := { name := "eventlogForms", fn := fun _ => fun
  | [d1, d2, d3] => { results := [.lit (.bool true)], args := [d1, d2, d3] }
  | _ => none }
def eventlogFormsRow : OpenClaim := { program := "ytnldjmokemgaoaa", sum := "1095cc447ed1cf7430c717c8ca687dbcd1da9f26d14ad1be709569b32501287c", func := "casebook/casebooklaw12.EventlogForms", spec := "eventlogForms", unfollowed := true, recurses := true, apart := false }
def EventlogFormsSaid : Prop := eventlogFormsRow.holds Try.pinned (OpenSpec.ofChange eventlogFormsSpec)

/-- ITS FALSE NEIGHBOUR: 'it returns false'. Refute it at one input. -/
def eventlogFormsWrong : ChangeSpec := { name := "eventlogForms", fn := fun _ => fun
  | [d1, d2, d3] => { results := [.lit (.bool false)], args := [d1, d2, d3] }
  | _ => none }
def EventlogFormsWrongFalsely : Prop := eventlogFormsRow.holds Try.pinned (OpenSpec.ofChange eventlogFormsWrong)

/-- 'casebooklaw12.EventlogThere': WHATEVER THE INPUT: true; the input reads as it did. -/
def eventlogThereSpec : ChangeSpec := { name := "eventlogThere", fn := fun _ => fun
  | [d1, d2] => { results := [.lit (.bool true)], args := [d1, d2] }
  | _ => none }
def eventlogThereRow : OpenClaim := { program := "ytnldjmokemgaoaa", sum := "1095cc447ed1cf7430c717c8ca687dbcd1da9f26d14ad1be709569b32501287c", func := "casebook/casebooklaw12.EventlogThere", spec := "eventlogThere", unfollowed := true, recurses := true, apart := false }
def EventlogThereSaid : Prop := eventlogThereRow.holds Try.pinned (OpenSpec.ofChange eventlogThereSpec)

/-- ITS FALSE NEIGHBOUR: 'it returns false'. Refute it at one input. -/
def eventlogThereWrong : ChangeSpec := { name := "eventlogThere", fn := fun _ => fun
  | [d1, d2] => { results := [.lit (.bool false)], args := [d1, d2] }
  | _ => none }
def EventlogThereWrongFalsely : Prop := eventlogThereRow.holds Try.pinned (OpenSpec.ofChange eventlogThereWrong)

/-- 'casebooklaw12.EventlogMany': WHATEVER THE INPUT: true; the input reads as it did. -/
def eventlogManySpec : ChangeSpec := { name := "eventlogMany", fn := fun _ => fun
  | [d1, d2] => { results := [.lit (.bool true)], args := [d1, d2] }
  | _ => none }
def eventlogManyRow : OpenClaim := { program := "ytnldjmokemgaoaa", sum := "1095cc447ed1cf7430c717c8ca687dbcd1da9f26d14ad1be709569b32501287c", func := "casebook/casebooklaw12.EventlogMany", spec := "eventlogMany", unfollowed := true, recurses := true, apart := false }
def EventlogManySaid : Prop := eventlogManyRow.holds Try.pinned (OpenSpec.ofChange eventlogManySpec)

/-- ITS FALSE NEIGHBOUR: 'it returns false'. Refute it at one input. -/
def eventlogManyWrong : ChangeSpec := { name := "eventlogMany", fn := fun _ => fun
  | [d1, d2] => { results := [.lit (.bool false)], args := [d1, d2] }
  | _ => none }
def EventlogManyWrongFalsely : Prop := eventlogManyRow.holds Try.pinned (OpenSpec.ofChange eventlogManyWrong)

/-- 'casebooklaw12.EventlogTotals': WHATEVER THE INPUT: true; the input reads as it did. -/
def eventlogTotalsSpec : ChangeSpec := { name := "eventlogTotals", fn := fun _ => fun
  | [d1, d2] => { results := [.lit (.bool true)], args := [d1, d2] }
  | _ => none }
def eventlogTotalsRow : OpenClaim := { program := "ytnldjmokemgaoaa", sum := "1095cc447ed1cf7430c717c8ca687dbcd1da9f26d14ad1be709569b32501287c", func := "casebook/casebooklaw12.EventlogTotals", spec := "eventlogTotals", unfollowed := true, recurses := true, apart := false }
def EventlogTotalsSaid : Prop := eventlogTotalsRow.holds Try.pinned (OpenSpec.ofChange eventlogTotalsSpec)

/-- ITS FALSE NEIGHBOUR: 'it returns false'. Refute it at one input. -/
def eventlogTotalsWrong : ChangeSpec := { name := "eventlogTotals", fn := fun _ => fun
  | [d1, d2] => { results := [.lit (.bool false)], args := [d1, d2] }
  | _ => none }
def EventlogTotalsWrongFalsely : Prop := eventlogTotalsRow.holds Try.pinned (OpenSpec.ofChange eventlogTotalsWrong)

/- THE SECOND FORM. 'bulk': how many values and letters a reading holds, each counted each time it is reached (what is shared counts as often as it is met; a slice's spare places count too). A statement '..UptoSaid' is the law's where the arguments, and the package variables that the reading takes, are together of bulk at most 1048576: NARROWER than '..Said'. Prove '..Said' where nothing that the law and all that it calls make is longer than what came in: it says more and counts as full. Else prove '..UptoSaid'. A law counts once. -/
mutual
def uptoBulk {H : Type} : DataW H → Nat
  | .lit (.string bytes) => bytes.length + 1
  | .lit _ => 1
  | .nil => 1
  | .ptr d => uptoBulk d + 1
  | .slice elems spare => uptoBulkAll elems + uptoBulkAll spare + 1
  | .agg parts => uptoBulkAll parts + 1
  | .iface _ d => uptoBulk d + 1
  | .map entries => uptoBulkEntries entries + 1
  | .held _ => 1
def uptoBulkAll {H : Type} : List (DataW H) → Nat
  | [] => 0
  | d :: r => uptoBulk d + uptoBulkAll r
def uptoBulkEntries {H : Type} : List (Lit × DataW H) → Nat
  | [] => 0
  | x :: r => uptoBulkEntry x + uptoBulkEntries r
def uptoBulkEntry {H : Type} : Lit × DataW H → Nat
  | (.string bytes, d) => bytes.length + uptoBulk d + 1
  | (_, d) => uptoBulk d + 1
 end
def uptoSmall : (H : Type) → List (DataW H) → Bool := fun _ ds => decide (uptoBulkAll ds ≤ 1048576)
def OpenSpec.upto (s : _root_.Go.ChangeSpec) : _root_.Go.OpenSpec := { _root_.Go.OpenSpec.ofChange s with cond := some uptoSmall }

/-- 'casebooklaw12.EventlogCases', WHERE WHAT IT READS IS OF BULK AT MOST 1048576: true; the input reads as it did. -/
def eventlogCasesUptoRow : OpenClaim := { program := "ytnldjmokemgaoaa", sum := "1095cc447ed1cf7430c717c8ca687dbcd1da9f26d14ad1be709569b32501287c", func := "casebook/casebooklaw12.EventlogCases", spec := "eventlogCases", unfollowed := true, recurses := true, apart := false, narrowed := true }
def EventlogCasesUptoSaid : Prop := eventlogCasesUptoRow.holds Try.pinned (OpenSpec.upto eventlogCasesSpec)

/-- 'casebooklaw12.EventlogForms', WHERE WHAT IT READS IS OF BULK AT MOST 1048576: true; the input reads as it did. -/
def eventlogFormsUptoRow : OpenClaim := { program := "ytnldjmokemgaoaa", sum := "1095cc447ed1cf7430c717c8ca687dbcd1da9f26d14ad1be709569b32501287c", func := "casebook/casebooklaw12.EventlogForms", spec := "eventlogForms", unfollowed := true, recurses := true, apart := false, narrowed := true }
def EventlogFormsUptoSaid : Prop := eventlogFormsUptoRow.holds Try.pinned (OpenSpec.upto eventlogFormsSpec)

/-- 'casebooklaw12.EventlogThere', WHERE WHAT IT READS IS OF BULK AT MOST 1048576: true; the input reads as it did. -/
def eventlogThereUptoRow : OpenClaim := { program := "ytnldjmokemgaoaa", sum := "1095cc447ed1cf7430c717c8ca687dbcd1da9f26d14ad1be709569b32501287c", func := "casebook/casebooklaw12.EventlogThere", spec := "eventlogThere", unfollowed := true, recurses := true, apart := false, narrowed := true }
def EventlogThereUptoSaid : Prop := eventlogThereUptoRow.holds Try.pinned (OpenSpec.upto eventlogThereSpec)

/-- 'casebooklaw12.EventlogMany', WHERE WHAT IT READS IS OF BULK AT MOST 1048576: true; the input reads as it did. -/
def eventlogManyUptoRow : OpenClaim := { program := "ytnldjmokemgaoaa", sum := "1095cc447ed1cf7430c717c8ca687dbcd1da9f26d14ad1be709569b32501287c", func := "casebook/casebooklaw12.EventlogMany", spec := "eventlogMany", unfollowed := true, recurses := true, apart := false, narrowed := true }
def EventlogManyUptoSaid : Prop := eventlogManyUptoRow.holds Try.pinned (OpenSpec.upto eventlogManySpec)

/-- 'casebooklaw12.EventlogTotals', WHERE WHAT IT READS IS OF BULK AT MOST 1048576: true; the input reads as it did. -/
def eventlogTotalsUptoRow : OpenClaim := { program := "ytnldjmokemgaoaa", sum := "1095cc447ed1cf7430c717c8ca687dbcd1da9f26d14ad1be709569b32501287c", func := "casebook/casebooklaw12.EventlogTotals", spec := "eventlogTotals", unfollowed := true, recurses := true, apart := false, narrowed := true }
def EventlogTotalsUptoSaid : Prop := eventlogTotalsUptoRow.holds Try.pinned (OpenSpec.upto eventlogTotalsSpec)

end Rows
end Go.Proofs.Ytnldjmokemgaoaa
