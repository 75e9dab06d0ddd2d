/-
  No cell of these rows narrows 'for every input' (looked for: loops, veiled, ifaces, maps, wideKeys, modest, calm, conditions, laid).
  DERIVED. THE GIVEN ROWS OF THIS SEAT. 9 by the template 'for every input the law returns true; each argument reads behind the call as it read before'; 0 by the template 'total and deterministic' (their statements: YtkppfaennogcmaaTotals.lean).
  GIVEN WITH THE SEED: the statements are not yours to turn. If you find one false, say at which input.
  Laid BY PROGRAM, IN A SANDBOX (cutbox-rows.mjs): the forced cells as the released guide's own fill.sh prints them over the translation 34086bd7ba73faf0… (all of the seat's roots in one cut). By AI agents, Wed Nov 11 2026. No macro, syntax, notation, axiom, sorry.
-/
import Derived.Test.YtkppfaennogcmaaChecked
import GoSem.Claim
import GoSem.ClaimJoined
import GoSem.ClaimMapViews
import Derived.JoinedTies
import Derived.KernelRfl
namespace Go.Proofs.Ytkppfaennogcmaa
/- THE CELL 'sum', in the pinned program and in every row, IS THE sha256 OF THE DUMP (.gsa) THAT YtkppfaennogcmaaProg.lean LOADS. Nothing in Lean hashes anything: it is a label: what it is worth is what the hold of that sum in a sandbox is worth. -/
noncomputable def Try.pinned : Pinned := { name := "ytkppfaennogcmaa", sum := "34086bd7ba73faf0346b01d67567b36c5f38a1a5c280e358e0c7ff911ef0d82c", checked := Try.checked }
namespace Rows
def none {H : Type} : Left H := { results := [], args := [] }

/-- 'casebooklaw55.PrivacySuppress': WHATEVER THE INPUT: true; the input reads as it did. -/
def privacySuppressSpec : ChangeSpec := { name := "privacySuppress", fn := fun _ => fun
  | [d1, d2, d3] => { results := [.lit (.bool true)], args := [d1, d2, d3] }
  | _ => none }
def privacySuppressRow : OpenClaim := { program := "ytkppfaennogcmaa", sum := "34086bd7ba73faf0346b01d67567b36c5f38a1a5c280e358e0c7ff911ef0d82c", func := "casebook/casebooklaw55.PrivacySuppress", spec := "privacySuppress", inPlace := ["internal/abi.NoEscape", "internal/bytealg.MakeNoZero"], unfollowed := true, recurses := true, apart := false }
def PrivacySuppressSaid : Prop := privacySuppressRow.holds Try.pinned (OpenSpec.ofChange privacySuppressSpec)

/-- ITS FALSE NEIGHBOUR: 'it returns false'. Refute it at one input. -/
def privacySuppressWrong : ChangeSpec := { name := "privacySuppress", fn := fun _ => fun
  | [d1, d2, d3] => { results := [.lit (.bool false)], args := [d1, d2, d3] }
  | _ => none }
def PrivacySuppressWrongFalsely : Prop := privacySuppressRow.holds Try.pinned (OpenSpec.ofChange privacySuppressWrong)

/-- 'casebooklaw55.PrivacyTimes': WHATEVER THE INPUT: true; the input reads as it did. -/
def privacyTimesSpec : ChangeSpec := { name := "privacyTimes", fn := fun _ => fun
  | [d1, d2] => { results := [.lit (.bool true)], args := [d1, d2] }
  | _ => none }
def privacyTimesRow : OpenClaim := { program := "ytkppfaennogcmaa", sum := "34086bd7ba73faf0346b01d67567b36c5f38a1a5c280e358e0c7ff911ef0d82c", func := "casebook/casebooklaw55.PrivacyTimes", spec := "privacyTimes", inPlace := ["internal/abi.NoEscape", "internal/bytealg.MakeNoZero"], unfollowed := true, recurses := true, apart := false }
def PrivacyTimesSaid : Prop := privacyTimesRow.holds Try.pinned (OpenSpec.ofChange privacyTimesSpec)

/-- ITS FALSE NEIGHBOUR: 'it returns false'. Refute it at one input. -/
def privacyTimesWrong : ChangeSpec := { name := "privacyTimes", fn := fun _ => fun
  | [d1, d2] => { results := [.lit (.bool false)], args := [d1, d2] }
  | _ => none }
def PrivacyTimesWrongFalsely : Prop := privacyTimesRow.holds Try.pinned (OpenSpec.ofChange privacyTimesWrong)

/-- 'casebooklaw55.PrivacyMade': WHATEVER THE INPUT: true; the input reads as it did. -/
def privacyMadeSpec : ChangeSpec := { name := "privacyMade", fn := fun _ => fun
  | [d1, d2] => { results := [.lit (.bool true)], args := [d1, d2] }
  | _ => none }
def privacyMadeRow : OpenClaim := { program := "ytkppfaennogcmaa", sum := "34086bd7ba73faf0346b01d67567b36c5f38a1a5c280e358e0c7ff911ef0d82c", func := "casebook/casebooklaw55.PrivacyMade", spec := "privacyMade", inPlace := ["internal/abi.NoEscape", "internal/bytealg.MakeNoZero"], unfollowed := true, recurses := true, apart := false }
def PrivacyMadeSaid : Prop := privacyMadeRow.holds Try.pinned (OpenSpec.ofChange privacyMadeSpec)

/-- ITS FALSE NEIGHBOUR: 'it returns false'. Refute it at one input. -/
def privacyMadeWrong : ChangeSpec := { name := "privacyMade", fn := fun _ => fun
  | [d1, d2] => { results := [.lit (.bool false)], args := [d1, d2] }
  | _ => none }
def PrivacyMadeWrongFalsely : Prop := privacyMadeRow.holds Try.pinned (OpenSpec.ofChange privacyMadeWrong)

/-- 'casebooklaw55.PrivacyBest': WHATEVER THE INPUT: true; the input reads as it did. -/
def privacyBestSpec : ChangeSpec := { name := "privacyBest", fn := fun _ => fun
  | [d1, d2] => { results := [.lit (.bool true)], args := [d1, d2] }
  | _ => none }
def privacyBestRow : OpenClaim := { program := "ytkppfaennogcmaa", sum := "34086bd7ba73faf0346b01d67567b36c5f38a1a5c280e358e0c7ff911ef0d82c", func := "casebook/casebooklaw55.PrivacyBest", spec := "privacyBest", inPlace := ["internal/abi.NoEscape", "internal/bytealg.MakeNoZero"], unfollowed := true, recurses := true, apart := false }
def PrivacyBestSaid : Prop := privacyBestRow.holds Try.pinned (OpenSpec.ofChange privacyBestSpec)

/-- ITS FALSE NEIGHBOUR: 'it returns false'. Refute it at one input. -/
def privacyBestWrong : ChangeSpec := { name := "privacyBest", fn := fun _ => fun
  | [d1, d2] => { results := [.lit (.bool false)], args := [d1, d2] }
  | _ => none }
def PrivacyBestWrongFalsely : Prop := privacyBestRow.holds Try.pinned (OpenSpec.ofChange privacyBestWrong)

/-- 'casebooklaw55.PrivacyLikely': WHATEVER THE INPUT: true; the input reads as it did. -/
def privacyLikelySpec : ChangeSpec := { name := "privacyLikely", fn := fun _ => fun
  | [d1, d2] => { results := [.lit (.bool true)], args := [d1, d2] }
  | _ => none }
def privacyLikelyRow : OpenClaim := { program := "ytkppfaennogcmaa", sum := "34086bd7ba73faf0346b01d67567b36c5f38a1a5c280e358e0c7ff911ef0d82c", func := "casebook/casebooklaw55.PrivacyLikely", spec := "privacyLikely", inPlace := ["internal/abi.NoEscape", "internal/bytealg.MakeNoZero"], unfollowed := true, recurses := true, apart := false }
def PrivacyLikelySaid : Prop := privacyLikelyRow.holds Try.pinned (OpenSpec.ofChange privacyLikelySpec)

/-- ITS FALSE NEIGHBOUR: 'it returns false'. Refute it at one input. -/
def privacyLikelyWrong : ChangeSpec := { name := "privacyLikely", fn := fun _ => fun
  | [d1, d2] => { results := [.lit (.bool false)], args := [d1, d2] }
  | _ => none }
def PrivacyLikelyWrongFalsely : Prop := privacyLikelyRow.holds Try.pinned (OpenSpec.ofChange privacyLikelyWrong)

/-- 'casebooklaw55.PrivacyKeeps': WHATEVER THE INPUT: true; the input reads as it did. -/
def privacyKeepsSpec : ChangeSpec := { name := "privacyKeeps", fn := fun _ => fun
  | [d1, d2] => { results := [.lit (.bool true)], args := [d1, d2] }
  | _ => none }
def privacyKeepsRow : OpenClaim := { program := "ytkppfaennogcmaa", sum := "34086bd7ba73faf0346b01d67567b36c5f38a1a5c280e358e0c7ff911ef0d82c", func := "casebook/casebooklaw55.PrivacyKeeps", spec := "privacyKeeps", inPlace := ["internal/abi.NoEscape", "internal/bytealg.MakeNoZero"], unfollowed := true, recurses := true, apart := false }
def PrivacyKeepsSaid : Prop := privacyKeepsRow.holds Try.pinned (OpenSpec.ofChange privacyKeepsSpec)

/-- ITS FALSE NEIGHBOUR: 'it returns false'. Refute it at one input. -/
def privacyKeepsWrong : ChangeSpec := { name := "privacyKeeps", fn := fun _ => fun
  | [d1, d2] => { results := [.lit (.bool false)], args := [d1, d2] }
  | _ => none }
def PrivacyKeepsWrongFalsely : Prop := privacyKeepsRow.holds Try.pinned (OpenSpec.ofChange privacyKeepsWrong)

/-- 'casebooklaw55.PrivacyEven': WHATEVER THE INPUT: true; the input reads as it did. -/
def privacyEvenSpec : ChangeSpec := { name := "privacyEven", fn := fun _ => fun
  | [d1, d2, d3] => { results := [.lit (.bool true)], args := [d1, d2, d3] }
  | _ => none }
def privacyEvenRow : OpenClaim := { program := "ytkppfaennogcmaa", sum := "34086bd7ba73faf0346b01d67567b36c5f38a1a5c280e358e0c7ff911ef0d82c", func := "casebook/casebooklaw55.PrivacyEven", spec := "privacyEven", inPlace := ["internal/abi.NoEscape", "internal/bytealg.MakeNoZero"], unfollowed := true, recurses := true, apart := false }
def PrivacyEvenSaid : Prop := privacyEvenRow.holds Try.pinned (OpenSpec.ofChange privacyEvenSpec)

/-- ITS FALSE NEIGHBOUR: 'it returns false'. Refute it at one input. -/
def privacyEvenWrong : ChangeSpec := { name := "privacyEven", fn := fun _ => fun
  | [d1, d2, d3] => { results := [.lit (.bool false)], args := [d1, d2, d3] }
  | _ => none }
def PrivacyEvenWrongFalsely : Prop := privacyEvenRow.holds Try.pinned (OpenSpec.ofChange privacyEvenWrong)

/-- 'casebooklaw55.PrivacyForms': WHATEVER THE INPUT: true; the input reads as it did. -/
def privacyFormsSpec : ChangeSpec := { name := "privacyForms", fn := fun _ => fun
  | [d1, d2, d3, d4] => { results := [.lit (.bool true)], args := [d1, d2, d3, d4] }
  | _ => none }
def privacyFormsRow : OpenClaim := { program := "ytkppfaennogcmaa", sum := "34086bd7ba73faf0346b01d67567b36c5f38a1a5c280e358e0c7ff911ef0d82c", func := "casebook/casebooklaw55.PrivacyForms", spec := "privacyForms", inPlace := ["internal/abi.NoEscape", "internal/bytealg.MakeNoZero"], unfollowed := true, recurses := true, apart := false }
def PrivacyFormsSaid : Prop := privacyFormsRow.holds Try.pinned (OpenSpec.ofChange privacyFormsSpec)

/-- ITS FALSE NEIGHBOUR: 'it returns false'. Refute it at one input. -/
def privacyFormsWrong : ChangeSpec := { name := "privacyForms", fn := fun _ => fun
  | [d1, d2, d3, d4] => { results := [.lit (.bool false)], args := [d1, d2, d3, d4] }
  | _ => none }
def PrivacyFormsWrongFalsely : Prop := privacyFormsRow.holds Try.pinned (OpenSpec.ofChange privacyFormsWrong)

/-- 'casebooklaw55.PrivacySpends': WHATEVER THE INPUT: true; the input reads as it did. -/
def privacySpendsSpec : ChangeSpec := { name := "privacySpends", fn := fun _ => fun
  | [d1, d2, d3] => { results := [.lit (.bool true)], args := [d1, d2, d3] }
  | _ => none }
def privacySpendsRow : OpenClaim := { program := "ytkppfaennogcmaa", sum := "34086bd7ba73faf0346b01d67567b36c5f38a1a5c280e358e0c7ff911ef0d82c", func := "casebook/casebooklaw55.PrivacySpends", spec := "privacySpends", inPlace := ["internal/abi.NoEscape", "internal/bytealg.MakeNoZero"], unfollowed := true, recurses := true, apart := false }
def PrivacySpendsSaid : Prop := privacySpendsRow.holds Try.pinned (OpenSpec.ofChange privacySpendsSpec)

/-- ITS FALSE NEIGHBOUR: 'it returns false'. Refute it at one input. -/
def privacySpendsWrong : ChangeSpec := { name := "privacySpends", fn := fun _ => fun
  | [d1, d2, d3] => { results := [.lit (.bool false)], args := [d1, d2, d3] }
  | _ => none }
def PrivacySpendsWrongFalsely : Prop := privacySpendsRow.holds Try.pinned (OpenSpec.ofChange privacySpendsWrong)

/- THE SECOND FORM. 'bulk': how many values and letters a reading holds, each counted each time it is reached (what is shared counts as often as it is met; a slice's spare places count too). A statement '..UptoSaid' is the law's where the arguments, and the package variables that the reading takes, are together of bulk at most 1048576: NARROWER than '..Said'. Prove '..Said' where nothing that the law and all that it calls make is longer than what came in: it says more and counts as full. Else prove '..UptoSaid'. A law counts once. -/
mutual
def uptoBulk {H : Type} : DataW H → Nat
  | .lit (.string bytes) => bytes.length + 1
  | .lit _ => 1
  | .nil => 1
  | .ptr d => uptoBulk d + 1
  | .slice elems spare => uptoBulkAll elems + uptoBulkAll spare + 1
  | .agg parts => uptoBulkAll parts + 1
  | .iface _ d => uptoBulk d + 1
  | .map entries => uptoBulkEntries entries + 1
  | .held _ => 1
def uptoBulkAll {H : Type} : List (DataW H) → Nat
  | [] => 0
  | d :: r => uptoBulk d + uptoBulkAll r
def uptoBulkEntries {H : Type} : List (Lit × DataW H) → Nat
  | [] => 0
  | x :: r => uptoBulkEntry x + uptoBulkEntries r
def uptoBulkEntry {H : Type} : Lit × DataW H → Nat
  | (.string bytes, d) => bytes.length + uptoBulk d + 1
  | (_, d) => uptoBulk d + 1
 end
def uptoSmall : (H : Type) → List (DataW H) → Bool := fun _ ds => decide (uptoBulkAll ds ≤ 1048576)
def OpenSpec.upto (s : _root_.Go.ChangeSpec) : _root_.Go.OpenSpec := { _root_.Go.OpenSpec.ofChange s with cond := some uptoSmall }

/-- 'casebooklaw55.PrivacySuppress', WHERE WHAT IT READS IS OF BULK AT MOST 1048576: true; the input reads as it did. -/
def privacySuppressUptoRow : OpenClaim := { program := "ytkppfaennogcmaa", sum := "34086bd7ba73faf0346b01d67567b36c5f38a1a5c280e358e0c7ff911ef0d82c", func := "casebook/casebooklaw55.PrivacySuppress", spec := "privacySuppress", inPlace := ["internal/abi.NoEscape", "internal/bytealg.MakeNoZero"], unfollowed := true, recurses := true, apart := false, narrowed := true }
def PrivacySuppressUptoSaid : Prop := privacySuppressUptoRow.holds Try.pinned (OpenSpec.upto privacySuppressSpec)

/-- 'casebooklaw55.PrivacyTimes', WHERE WHAT IT READS IS OF BULK AT MOST 1048576: true; the input reads as it did. -/
def privacyTimesUptoRow : OpenClaim := { program := "ytkppfaennogcmaa", sum := "34086bd7ba73faf0346b01d67567b36c5f38a1a5c280e358e0c7ff911ef0d82c", func := "casebook/casebooklaw55.PrivacyTimes", spec := "privacyTimes", inPlace := ["internal/abi.NoEscape", "internal/bytealg.MakeNoZero"], unfollowed := true, recurses := true, apart := false, narrowed := true }
def PrivacyTimesUptoSaid : Prop := privacyTimesUptoRow.holds Try.pinned (OpenSpec.upto privacyTimesSpec)

/-- 'casebooklaw55.PrivacyMade', WHERE WHAT IT READS IS OF BULK AT MOST 1048576: true; the input reads as it did. -/
def privacyMadeUptoRow : OpenClaim := { program := "ytkppfaennogcmaa", sum := "34086bd7ba73faf0346b01d67567b36c5f38a1a5c280e358e0c7ff911ef0d82c", func := "casebook/casebooklaw55.PrivacyMade", spec := "privacyMade", inPlace := ["internal/abi.NoEscape", "internal/bytealg.MakeNoZero"], unfollowed := true, recurses := true, apart := false, narrowed := true }
def PrivacyMadeUptoSaid : Prop := privacyMadeUptoRow.holds Try.pinned (OpenSpec.upto privacyMadeSpec)

/-- 'casebooklaw55.PrivacyBest', WHERE WHAT IT READS IS OF BULK AT MOST 1048576: true; the input reads as it did. -/
def privacyBestUptoRow : OpenClaim := { program := "ytkppfaennogcmaa", sum := "34086bd7ba73faf0346b01d67567b36c5f38a1a5c280e358e0c7ff911ef0d82c", func := "casebook/casebooklaw55.PrivacyBest", spec := "privacyBest", inPlace := ["internal/abi.NoEscape", "internal/bytealg.MakeNoZero"], unfollowed := true, recurses := true, apart := false, narrowed := true }
def PrivacyBestUptoSaid : Prop := privacyBestUptoRow.holds Try.pinned (OpenSpec.upto privacyBestSpec)

/-- 'casebooklaw55.PrivacyLikely', WHERE WHAT IT READS IS OF BULK AT MOST 1048576: true; the input reads as it did. -/
def privacyLikelyUptoRow : OpenClaim := { program := "ytkppfaennogcmaa", sum := "34086bd7ba73faf0346b01d67567b36c5f38a1a5c280e358e0c7ff911ef0d82c", func := "casebook/casebooklaw55.PrivacyLikely", spec := "privacyLikely", inPlace := ["internal/abi.NoEscape", "internal/bytealg.MakeNoZero"], unfollowed := true, recurses := true, apart := false, narrowed := true }
def PrivacyLikelyUptoSaid : Prop := privacyLikelyUptoRow.holds Try.pinned (OpenSpec.upto privacyLikelySpec)

/-- 'casebooklaw55.PrivacyKeeps', WHERE WHAT IT READS IS OF BULK AT MOST 1048576: true; the input reads as it did. -/
def privacyKeepsUptoRow : OpenClaim := { program := "ytkppfaennogcmaa", sum := "34086bd7ba73faf0346b01d67567b36c5f38a1a5c280e358e0c7ff911ef0d82c", func := "casebook/casebooklaw55.PrivacyKeeps", spec := "privacyKeeps", inPlace := ["internal/abi.NoEscape", "internal/bytealg.MakeNoZero"], unfollowed := true, recurses := true, apart := false, narrowed := true }
def PrivacyKeepsUptoSaid : Prop := privacyKeepsUptoRow.holds Try.pinned (OpenSpec.upto privacyKeepsSpec)

/-- 'casebooklaw55.PrivacyEven', WHERE WHAT IT READS IS OF BULK AT MOST 1048576: true; the input reads as it did. -/
def privacyEvenUptoRow : OpenClaim := { program := "ytkppfaennogcmaa", sum := "34086bd7ba73faf0346b01d67567b36c5f38a1a5c280e358e0c7ff911ef0d82c", func := "casebook/casebooklaw55.PrivacyEven", spec := "privacyEven", inPlace := ["internal/abi.NoEscape", "internal/bytealg.MakeNoZero"], unfollowed := true, recurses := true, apart := false, narrowed := true }
def PrivacyEvenUptoSaid : Prop := privacyEvenUptoRow.holds Try.pinned (OpenSpec.upto privacyEvenSpec)

/-- 'casebooklaw55.PrivacyForms', WHERE WHAT IT READS IS OF BULK AT MOST 1048576: true; the input reads as it did. -/
def privacyFormsUptoRow : OpenClaim := { program := "ytkppfaennogcmaa", sum := "34086bd7ba73faf0346b01d67567b36c5f38a1a5c280e358e0c7ff911ef0d82c", func := "casebook/casebooklaw55.PrivacyForms", spec := "privacyForms", inPlace := ["internal/abi.NoEscape", "internal/bytealg.MakeNoZero"], unfollowed := true, recurses := true, apart := false, narrowed := true }
def PrivacyFormsUptoSaid : Prop := privacyFormsUptoRow.holds Try.pinned (OpenSpec.upto privacyFormsSpec)

/-- 'casebooklaw55.PrivacySpends', WHERE WHAT IT READS IS OF BULK AT MOST 1048576: true; the input reads as it did. -/
def privacySpendsUptoRow : OpenClaim := { program := "ytkppfaennogcmaa", sum := "34086bd7ba73faf0346b01d67567b36c5f38a1a5c280e358e0c7ff911ef0d82c", func := "casebook/casebooklaw55.PrivacySpends", spec := "privacySpends", inPlace := ["internal/abi.NoEscape", "internal/bytealg.MakeNoZero"], unfollowed := true, recurses := true, apart := false, narrowed := true }
def PrivacySpendsUptoSaid : Prop := privacySpendsUptoRow.holds Try.pinned (OpenSpec.upto privacySpendsSpec)

end Rows
end Go.Proofs.Ytkppfaennogcmaa
