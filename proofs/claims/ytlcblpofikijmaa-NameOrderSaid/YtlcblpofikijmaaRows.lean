/-
  No cell of these rows narrows 'for every input' (looked for: loops, veiled, ifaces, maps, wideKeys, modest, calm, conditions, laid).
  DERIVED. THE GIVEN ROWS OF THIS SEAT. 7 by the template 'for every input the law returns true; each argument reads behind the call as it read before'; 0 by the template 'total and deterministic' (their statements: YtlcblpofikijmaaTotals.lean).
  GIVEN WITH THE SEED: the statements are not yours to turn. If you find one false, say at which input.
  Laid BY PROGRAM, IN A SANDBOX (cutbox-rows.mjs): the forced cells as the released guide's own fill.sh prints them over the translation 301cf4fbf28e156f… (all of the seat's roots in one cut). By AI agents, Wed Nov 11 2026. No macro, syntax, notation, axiom, sorry.
-/
import Derived.Test.YtlcblpofikijmaaChecked
import GoSem.Claim
import GoSem.ClaimJoined
import GoSem.ClaimMapViews
import Derived.JoinedTies
import Derived.KernelRfl
namespace Go.Proofs.Ytlcblpofikijmaa
/- THE CELL 'sum', in the pinned program and in every row, IS THE sha256 OF THE DUMP (.gsa) THAT YtlcblpofikijmaaProg.lean LOADS. Nothing in Lean hashes anything: it is a label: what it is worth is what the hold of that sum in a sandbox is worth. -/
noncomputable def Try.pinned : Pinned := { name := "ytlcblpofikijmaa", sum := "301cf4fbf28e156fe6df06e3b8e29c094a636420c625199a9af2842bc6009cdd", checked := Try.checked }
namespace Rows
def none {H : Type} : Left H := { results := [], args := [] }

/-- 'casebooklaw02.NameLines': WHATEVER THE INPUT: true; the input reads as it did. -/
def nameLinesSpec : ChangeSpec := { name := "nameLines", fn := fun _ => fun
  | [d1, d2] => { results := [.lit (.bool true)], args := [d1, d2] }
  | _ => none }
def nameLinesRow : OpenClaim := { program := "ytlcblpofikijmaa", sum := "301cf4fbf28e156fe6df06e3b8e29c094a636420c625199a9af2842bc6009cdd", func := "casebook/casebooklaw02.NameLines", spec := "nameLines", inPlace := ["internal/abi.NoEscape", "internal/bytealg.IndexByteString", "internal/bytealg.IndexString", "internal/bytealg.MakeNoZero"], unfollowed := true, recurses := true, named := ["internal/bytealg.MaxLen"], apart := false }
def NameLinesSaid : Prop := nameLinesRow.holds Try.pinned (OpenSpec.ofChange nameLinesSpec)

/-- ITS FALSE NEIGHBOUR: 'it returns false'. Refute it at one input. -/
def nameLinesWrong : ChangeSpec := { name := "nameLines", fn := fun _ => fun
  | [d1, d2] => { results := [.lit (.bool false)], args := [d1, d2] }
  | _ => none }
def NameLinesWrongFalsely : Prop := nameLinesRow.holds Try.pinned (OpenSpec.ofChange nameLinesWrong)

/-- 'casebooklaw02.NameNames': WHATEVER THE INPUT: true; the input reads as it did. -/
def nameNamesSpec : ChangeSpec := { name := "nameNames", fn := fun _ => fun
  | [d1, d2] => { results := [.lit (.bool true)], args := [d1, d2] }
  | _ => none }
def nameNamesRow : OpenClaim := { program := "ytlcblpofikijmaa", sum := "301cf4fbf28e156fe6df06e3b8e29c094a636420c625199a9af2842bc6009cdd", func := "casebook/casebooklaw02.NameNames", spec := "nameNames", inPlace := ["internal/abi.NoEscape", "internal/bytealg.IndexByteString", "internal/bytealg.IndexString", "internal/bytealg.MakeNoZero"], unfollowed := true, recurses := true, named := ["internal/bytealg.MaxLen"], apart := false }
def NameNamesSaid : Prop := nameNamesRow.holds Try.pinned (OpenSpec.ofChange nameNamesSpec)

/-- ITS FALSE NEIGHBOUR: 'it returns false'. Refute it at one input. -/
def nameNamesWrong : ChangeSpec := { name := "nameNames", fn := fun _ => fun
  | [d1, d2] => { results := [.lit (.bool false)], args := [d1, d2] }
  | _ => none }
def NameNamesWrongFalsely : Prop := nameNamesRow.holds Try.pinned (OpenSpec.ofChange nameNamesWrong)

/-- 'casebooklaw02.NameQuotes': WHATEVER THE INPUT: true; the input reads as it did. -/
def nameQuotesSpec : ChangeSpec := { name := "nameQuotes", fn := fun _ => fun
  | [d] => { results := [.lit (.bool true)], args := [d] }
  | _ => none }
def nameQuotesRow : OpenClaim := { program := "ytlcblpofikijmaa", sum := "301cf4fbf28e156fe6df06e3b8e29c094a636420c625199a9af2842bc6009cdd", func := "casebook/casebooklaw02.NameQuotes", spec := "nameQuotes", inPlace := ["internal/abi.NoEscape", "internal/bytealg.IndexByteString", "internal/bytealg.IndexString", "internal/bytealg.MakeNoZero"], unfollowed := true, recurses := true, named := ["internal/bytealg.MaxLen"], apart := false }
def NameQuotesSaid : Prop := nameQuotesRow.holds Try.pinned (OpenSpec.ofChange nameQuotesSpec)

/-- ITS FALSE NEIGHBOUR: 'it returns false'. Refute it at one input. -/
def nameQuotesWrong : ChangeSpec := { name := "nameQuotes", fn := fun _ => fun
  | [d] => { results := [.lit (.bool false)], args := [d] }
  | _ => none }
def NameQuotesWrongFalsely : Prop := nameQuotesRow.holds Try.pinned (OpenSpec.ofChange nameQuotesWrong)

/-- 'casebooklaw02.NameBack': WHATEVER THE INPUT: true; the input reads as it did. -/
def nameBackSpec : ChangeSpec := { name := "nameBack", fn := fun _ => fun
  | [d] => { results := [.lit (.bool true)], args := [d] }
  | _ => none }
def nameBackRow : OpenClaim := { program := "ytlcblpofikijmaa", sum := "301cf4fbf28e156fe6df06e3b8e29c094a636420c625199a9af2842bc6009cdd", func := "casebook/casebooklaw02.NameBack", spec := "nameBack", inPlace := ["internal/abi.NoEscape", "internal/bytealg.IndexByteString", "internal/bytealg.IndexString", "internal/bytealg.MakeNoZero"], unfollowed := true, recurses := true, named := ["internal/bytealg.MaxLen"], apart := false }
def NameBackSaid : Prop := nameBackRow.holds Try.pinned (OpenSpec.ofChange nameBackSpec)

/-- ITS FALSE NEIGHBOUR: 'it returns false'. Refute it at one input. -/
def nameBackWrong : ChangeSpec := { name := "nameBack", fn := fun _ => fun
  | [d] => { results := [.lit (.bool false)], args := [d] }
  | _ => none }
def NameBackWrongFalsely : Prop := nameBackRow.holds Try.pinned (OpenSpec.ofChange nameBackWrong)

/-- 'casebooklaw02.NameCompares': WHATEVER THE INPUT: true; the input reads as it did. -/
def nameComparesSpec : ChangeSpec := { name := "nameCompares", fn := fun _ => fun
  | [d1, d2] => { results := [.lit (.bool true)], args := [d1, d2] }
  | _ => none }
def nameComparesRow : OpenClaim := { program := "ytlcblpofikijmaa", sum := "301cf4fbf28e156fe6df06e3b8e29c094a636420c625199a9af2842bc6009cdd", func := "casebook/casebooklaw02.NameCompares", spec := "nameCompares", inPlace := ["internal/abi.NoEscape", "internal/bytealg.IndexByteString", "internal/bytealg.IndexString", "internal/bytealg.MakeNoZero"], unfollowed := true, recurses := true, named := ["internal/bytealg.MaxLen"], apart := false }
def NameComparesSaid : Prop := nameComparesRow.holds Try.pinned (OpenSpec.ofChange nameComparesSpec)

/-- ITS FALSE NEIGHBOUR: 'it returns false'. Refute it at one input. -/
def nameComparesWrong : ChangeSpec := { name := "nameCompares", fn := fun _ => fun
  | [d1, d2] => { results := [.lit (.bool false)], args := [d1, d2] }
  | _ => none }
def NameComparesWrongFalsely : Prop := nameComparesRow.holds Try.pinned (OpenSpec.ofChange nameComparesWrong)

/-- 'casebooklaw02.NameSorts': WHATEVER THE INPUT: true; the input reads as it did. -/
def nameSortsSpec : ChangeSpec := { name := "nameSorts", fn := fun _ => fun
  | [d] => { results := [.lit (.bool true)], args := [d] }
  | _ => none }
def nameSortsRow : OpenClaim := { program := "ytlcblpofikijmaa", sum := "301cf4fbf28e156fe6df06e3b8e29c094a636420c625199a9af2842bc6009cdd", func := "casebook/casebooklaw02.NameSorts", spec := "nameSorts", inPlace := ["internal/abi.NoEscape", "internal/bytealg.IndexByteString", "internal/bytealg.IndexString", "internal/bytealg.MakeNoZero"], unfollowed := true, recurses := true, named := ["internal/bytealg.MaxLen"], apart := false }
def NameSortsSaid : Prop := nameSortsRow.holds Try.pinned (OpenSpec.ofChange nameSortsSpec)

/-- ITS FALSE NEIGHBOUR: 'it returns false'. Refute it at one input. -/
def nameSortsWrong : ChangeSpec := { name := "nameSorts", fn := fun _ => fun
  | [d] => { results := [.lit (.bool false)], args := [d] }
  | _ => none }
def NameSortsWrongFalsely : Prop := nameSortsRow.holds Try.pinned (OpenSpec.ofChange nameSortsWrong)

/-- 'casebooklaw02.NameOrder': WHATEVER THE INPUT: true; the input reads as it did. -/
def nameOrderSpec : ChangeSpec := { name := "nameOrder", fn := fun _ => fun
  | [d1, d2, d3] => { results := [.lit (.bool true)], args := [d1, d2, d3] }
  | _ => none }
def nameOrderRow : OpenClaim := { program := "ytlcblpofikijmaa", sum := "301cf4fbf28e156fe6df06e3b8e29c094a636420c625199a9af2842bc6009cdd", func := "casebook/casebooklaw02.NameOrder", spec := "nameOrder", inPlace := ["internal/abi.NoEscape", "internal/bytealg.IndexByteString", "internal/bytealg.IndexString", "internal/bytealg.MakeNoZero"], unfollowed := true, recurses := true, named := ["internal/bytealg.MaxLen"], apart := false }
def NameOrderSaid : Prop := nameOrderRow.holds Try.pinned (OpenSpec.ofChange nameOrderSpec)

/-- ITS FALSE NEIGHBOUR: 'it returns false'. Refute it at one input. -/
def nameOrderWrong : ChangeSpec := { name := "nameOrder", fn := fun _ => fun
  | [d1, d2, d3] => { results := [.lit (.bool false)], args := [d1, d2, d3] }
  | _ => none }
def NameOrderWrongFalsely : Prop := nameOrderRow.holds Try.pinned (OpenSpec.ofChange nameOrderWrong)

/- THE SECOND FORM. 'bulk': how many values and letters a reading holds, each counted each time it is reached (what is shared counts as often as it is met; a slice's spare places count too). A statement '..UptoSaid' is the law's where the arguments, and the package variables that the reading takes, are together of bulk at most 1048576: NARROWER than '..Said'. Prove '..Said' where nothing that the law and all that it calls make is longer than what came in: it says more and counts as full. Else prove '..UptoSaid'. A law counts once. -/
mutual
def uptoBulk {H : Type} : DataW H → Nat
  | .lit (.string bytes) => bytes.length + 1
  | .lit _ => 1
  | .nil => 1
  | .ptr d => uptoBulk d + 1
  | .slice elems spare => uptoBulkAll elems + uptoBulkAll spare + 1
  | .agg parts => uptoBulkAll parts + 1
  | .iface _ d => uptoBulk d + 1
  | .map entries => uptoBulkEntries entries + 1
  | .held _ => 1
def uptoBulkAll {H : Type} : List (DataW H) → Nat
  | [] => 0
  | d :: r => uptoBulk d + uptoBulkAll r
def uptoBulkEntries {H : Type} : List (Lit × DataW H) → Nat
  | [] => 0
  | x :: r => uptoBulkEntry x + uptoBulkEntries r
def uptoBulkEntry {H : Type} : Lit × DataW H → Nat
  | (.string bytes, d) => bytes.length + uptoBulk d + 1
  | (_, d) => uptoBulk d + 1
 end
def uptoSmall : (H : Type) → List (DataW H) → Bool := fun _ ds => decide (uptoBulkAll ds ≤ 1048576)
def OpenSpec.upto (s : _root_.Go.ChangeSpec) : _root_.Go.OpenSpec := { _root_.Go.OpenSpec.ofChange s with cond := some uptoSmall }

/-- 'casebooklaw02.NameLines', WHERE WHAT IT READS IS OF BULK AT MOST 1048576: true; the input reads as it did. -/
def nameLinesUptoRow : OpenClaim := { program := "ytlcblpofikijmaa", sum := "301cf4fbf28e156fe6df06e3b8e29c094a636420c625199a9af2842bc6009cdd", func := "casebook/casebooklaw02.NameLines", spec := "nameLines", inPlace := ["internal/abi.NoEscape", "internal/bytealg.IndexByteString", "internal/bytealg.IndexString", "internal/bytealg.MakeNoZero"], unfollowed := true, recurses := true, named := ["internal/bytealg.MaxLen"], apart := false, narrowed := true }
def NameLinesUptoSaid : Prop := nameLinesUptoRow.holds Try.pinned (OpenSpec.upto nameLinesSpec)

/-- 'casebooklaw02.NameNames', WHERE WHAT IT READS IS OF BULK AT MOST 1048576: true; the input reads as it did. -/
def nameNamesUptoRow : OpenClaim := { program := "ytlcblpofikijmaa", sum := "301cf4fbf28e156fe6df06e3b8e29c094a636420c625199a9af2842bc6009cdd", func := "casebook/casebooklaw02.NameNames", spec := "nameNames", inPlace := ["internal/abi.NoEscape", "internal/bytealg.IndexByteString", "internal/bytealg.IndexString", "internal/bytealg.MakeNoZero"], unfollowed := true, recurses := true, named := ["internal/bytealg.MaxLen"], apart := false, narrowed := true }
def NameNamesUptoSaid : Prop := nameNamesUptoRow.holds Try.pinned (OpenSpec.upto nameNamesSpec)

/-- 'casebooklaw02.NameQuotes', WHERE WHAT IT READS IS OF BULK AT MOST 1048576: true; the input reads as it did. -/
def nameQuotesUptoRow : OpenClaim := { program := "ytlcblpofikijmaa", sum := "301cf4fbf28e156fe6df06e3b8e29c094a636420c625199a9af2842bc6009cdd", func := "casebook/casebooklaw02.NameQuotes", spec := "nameQuotes", inPlace := ["internal/abi.NoEscape", "internal/bytealg.IndexByteString", "internal/bytealg.IndexString", "internal/bytealg.MakeNoZero"], unfollowed := true, recurses := true, named := ["internal/bytealg.MaxLen"], apart := false, narrowed := true }
def NameQuotesUptoSaid : Prop := nameQuotesUptoRow.holds Try.pinned (OpenSpec.upto nameQuotesSpec)

/-- 'casebooklaw02.NameBack', WHERE WHAT IT READS IS OF BULK AT MOST 1048576: true; the input reads as it did. -/
def nameBackUptoRow : OpenClaim := { program := "ytlcblpofikijmaa", sum := "301cf4fbf28e156fe6df06e3b8e29c094a636420c625199a9af2842bc6009cdd", func := "casebook/casebooklaw02.NameBack", spec := "nameBack", inPlace := ["internal/abi.NoEscape", "internal/bytealg.IndexByteString", "internal/bytealg.IndexString", "internal/bytealg.MakeNoZero"], unfollowed := true, recurses := true, named := ["internal/bytealg.MaxLen"], apart := false, narrowed := true }
def NameBackUptoSaid : Prop := nameBackUptoRow.holds Try.pinned (OpenSpec.upto nameBackSpec)

/-- 'casebooklaw02.NameCompares', WHERE WHAT IT READS IS OF BULK AT MOST 1048576: true; the input reads as it did. -/
def nameComparesUptoRow : OpenClaim := { program := "ytlcblpofikijmaa", sum := "301cf4fbf28e156fe6df06e3b8e29c094a636420c625199a9af2842bc6009cdd", func := "casebook/casebooklaw02.NameCompares", spec := "nameCompares", inPlace := ["internal/abi.NoEscape", "internal/bytealg.IndexByteString", "internal/bytealg.IndexString", "internal/bytealg.MakeNoZero"], unfollowed := true, recurses := true, named := ["internal/bytealg.MaxLen"], apart := false, narrowed := true }
def NameComparesUptoSaid : Prop := nameComparesUptoRow.holds Try.pinned (OpenSpec.upto nameComparesSpec)

/-- 'casebooklaw02.NameSorts', WHERE WHAT IT READS IS OF BULK AT MOST 1048576: true; the input reads as it did. -/
def nameSortsUptoRow : OpenClaim := { program := "ytlcblpofikijmaa", sum := "301cf4fbf28e156fe6df06e3b8e29c094a636420c625199a9af2842bc6009cdd", func := "casebook/casebooklaw02.NameSorts", spec := "nameSorts", inPlace := ["internal/abi.NoEscape", "internal/bytealg.IndexByteString", "internal/bytealg.IndexString", "internal/bytealg.MakeNoZero"], unfollowed := true, recurses := true, named := ["internal/bytealg.MaxLen"], apart := false, narrowed := true }
def NameSortsUptoSaid : Prop := nameSortsUptoRow.holds Try.pinned (OpenSpec.upto nameSortsSpec)

/-- 'casebooklaw02.NameOrder', WHERE WHAT IT READS IS OF BULK AT MOST 1048576: true; the input reads as it did. -/
def nameOrderUptoRow : OpenClaim := { program := "ytlcblpofikijmaa", sum := "301cf4fbf28e156fe6df06e3b8e29c094a636420c625199a9af2842bc6009cdd", func := "casebook/casebooklaw02.NameOrder", spec := "nameOrder", inPlace := ["internal/abi.NoEscape", "internal/bytealg.IndexByteString", "internal/bytealg.IndexString", "internal/bytealg.MakeNoZero"], unfollowed := true, recurses := true, named := ["internal/bytealg.MaxLen"], apart := false, narrowed := true }
def NameOrderUptoSaid : Prop := nameOrderUptoRow.holds Try.pinned (OpenSpec.upto nameOrderSpec)

end Rows
end Go.Proofs.Ytlcblpofikijmaa
