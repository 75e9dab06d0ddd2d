/-
  DERIVED. GIVEN WITH THE SEED: THE CARDS: each row of YtlobmblakilmiaaDoorRows.lean that lists a variable, with what it lists TIED to the program's text (the seventh form; the later family's looks); each row that meets fmt, with fmt's text TOLD by the authors' own Lean function (tested against real Go, not proved from fmt's source: count such statements apart). THE CARD IS WHAT COUNTS. Prove the row's statement (the work); the ties are given (YtlobmblakilmiaaDoorTie.lean); close each card by the builder's one call (the guide's Derived/Test/ToyasCard.lean, 'card_holds'). Laid BY PROGRAM, IN A SANDBOX (cutbox-door.mjs). By AI agents, Wed Nov 11 2026. No macro, syntax, notation, axiom, sorry.
-/
import Derived.Test.YtlobmblakilmiaaDoorRows
import GoSem.ClaimSeven
namespace Go.Proofs.YtlobmblakilmiaaDoor
namespace Rows

/-- THE TIED CARD OF 'casebooklaw03.ClockWorks'. -/
def clockWorksCard : Claim7 := { stood := { row := clockWorksRow, standIns := [], harness := (true, "1880f898bbaf09c6edac37723e6cc967d8125325b76a979ef0306a28409b5d6d"), looks := false }, kinds := [], alts := [], laidByText := true, laidKinds := [.data, .data, .data], laidTests := true, laidLooks := .later }
def ClockWorksCardSaid : Prop := Claim7.holds Tryd.pinned (.plain (OpenSpec.ofChange clockWorksSpec)) clockWorksCard

/-- THE TIED CARD OF 'casebooklaw03.ClockTexts'. -/
def clockTextsCard : Claim7 := { stood := { row := clockTextsRow, standIns := [], harness := (true, "1880f898bbaf09c6edac37723e6cc967d8125325b76a979ef0306a28409b5d6d"), looks := false }, kinds := [], alts := [], laidByText := true, laidKinds := [.data, .data, .data], laidTests := true, laidLooks := .later }
def ClockTextsCardSaid : Prop := Claim7.holds Tryd.pinned (.plain (OpenSpec.ofChange clockTextsSpec)) clockTextsCard

/-- THE TIED CARD OF 'casebooklaw03.ClockForms'. -/
def clockFormsCard : Claim7 := { stood := { row := clockFormsRow, standIns := [], harness := (true, "1880f898bbaf09c6edac37723e6cc967d8125325b76a979ef0306a28409b5d6d"), looks := false }, kinds := [], alts := [], laidByText := true, laidKinds := [.data, .data, .data], laidTests := true, laidLooks := .later }
def ClockFormsCardSaid : Prop := Claim7.holds Tryd.pinned (.plain (OpenSpec.ofChange clockFormsSpec)) clockFormsCard

/-- THE TIED CARD OF 'casebooklaw03.ClockCounts'. -/
def clockCountsCard : Claim7 := { stood := { row := clockCountsRow, standIns := [], harness := (true, "1880f898bbaf09c6edac37723e6cc967d8125325b76a979ef0306a28409b5d6d"), looks := false }, kinds := [], alts := [], laidByText := true, laidKinds := [.data, .data, .data], laidTests := true, laidLooks := .later }
def ClockCountsCardSaid : Prop := Claim7.holds Tryd.pinned (.plain (OpenSpec.ofChange clockCountsSpec)) clockCountsCard

/-- THE TIED CARD OF 'casebooklaw03.ClockAdds'. -/
def clockAddsCard : Claim7 := { stood := { row := clockAddsRow, standIns := [], harness := (true, "1880f898bbaf09c6edac37723e6cc967d8125325b76a979ef0306a28409b5d6d"), looks := false }, kinds := [], alts := [], laidByText := true, laidKinds := [.data, .data, .data], laidTests := true, laidLooks := .later }
def ClockAddsCardSaid : Prop := Claim7.holds Tryd.pinned (.plain (OpenSpec.ofChange clockAddsSpec)) clockAddsCard

/-- THE TIED CARD OF 'casebooklaw03.ClockMakes'. -/
def clockMakesCard : Claim7 := { stood := { row := clockMakesRow, standIns := [], harness := (true, "1880f898bbaf09c6edac37723e6cc967d8125325b76a979ef0306a28409b5d6d"), looks := false }, kinds := [], alts := [], laidByText := true, laidKinds := [.data, .data, .data], laidTests := true, laidLooks := .later }
def ClockMakesCardSaid : Prop := Claim7.holds Tryd.pinned (.plain (OpenSpec.ofChange clockMakesSpec)) clockMakesCard

/-- THE TIED CARD OF 'casebooklaw03.ClockSets'. -/
def clockSetsCard : Claim7 := { stood := { row := clockSetsRow, standIns := [], harness := (true, "1880f898bbaf09c6edac37723e6cc967d8125325b76a979ef0306a28409b5d6d"), looks := false }, kinds := [], alts := [], laidByText := true, laidKinds := [.data, .data, .data], laidTests := true, laidLooks := .later }
def ClockSetsCardSaid : Prop := Claim7.holds Tryd.pinned (.plain (OpenSpec.ofChange clockSetsSpec)) clockSetsCard

/-- THE SECOND FORM's CARD OF 'casebooklaw03.ClockWorks'. -/
def clockWorksUptoCard : Claim7 := { stood := { row := clockWorksUptoRow, standIns := [], harness := (true, "1880f898bbaf09c6edac37723e6cc967d8125325b76a979ef0306a28409b5d6d"), looks := false }, kinds := [], alts := [], laidByText := true, laidKinds := [.data, .data, .data], laidTests := true, laidLooks := .later }
def ClockWorksUptoCardSaid : Prop := Claim7.holds Tryd.pinned (.plain (OpenSpec.upto clockWorksSpec)) clockWorksUptoCard

/-- THE SECOND FORM's CARD OF 'casebooklaw03.ClockTexts'. -/
def clockTextsUptoCard : Claim7 := { stood := { row := clockTextsUptoRow, standIns := [], harness := (true, "1880f898bbaf09c6edac37723e6cc967d8125325b76a979ef0306a28409b5d6d"), looks := false }, kinds := [], alts := [], laidByText := true, laidKinds := [.data, .data, .data], laidTests := true, laidLooks := .later }
def ClockTextsUptoCardSaid : Prop := Claim7.holds Tryd.pinned (.plain (OpenSpec.upto clockTextsSpec)) clockTextsUptoCard

/-- THE SECOND FORM's CARD OF 'casebooklaw03.ClockForms'. -/
def clockFormsUptoCard : Claim7 := { stood := { row := clockFormsUptoRow, standIns := [], harness := (true, "1880f898bbaf09c6edac37723e6cc967d8125325b76a979ef0306a28409b5d6d"), looks := false }, kinds := [], alts := [], laidByText := true, laidKinds := [.data, .data, .data], laidTests := true, laidLooks := .later }
def ClockFormsUptoCardSaid : Prop := Claim7.holds Tryd.pinned (.plain (OpenSpec.upto clockFormsSpec)) clockFormsUptoCard

/-- THE SECOND FORM's CARD OF 'casebooklaw03.ClockCounts'. -/
def clockCountsUptoCard : Claim7 := { stood := { row := clockCountsUptoRow, standIns := [], harness := (true, "1880f898bbaf09c6edac37723e6cc967d8125325b76a979ef0306a28409b5d6d"), looks := false }, kinds := [], alts := [], laidByText := true, laidKinds := [.data, .data, .data], laidTests := true, laidLooks := .later }
def ClockCountsUptoCardSaid : Prop := Claim7.holds Tryd.pinned (.plain (OpenSpec.upto clockCountsSpec)) clockCountsUptoCard

/-- THE SECOND FORM's CARD OF 'casebooklaw03.ClockAdds'. -/
def clockAddsUptoCard : Claim7 := { stood := { row := clockAddsUptoRow, standIns := [], harness := (true, "1880f898bbaf09c6edac37723e6cc967d8125325b76a979ef0306a28409b5d6d"), looks := false }, kinds := [], alts := [], laidByText := true, laidKinds := [.data, .data, .data], laidTests := true, laidLooks := .later }
def ClockAddsUptoCardSaid : Prop := Claim7.holds Tryd.pinned (.plain (OpenSpec.upto clockAddsSpec)) clockAddsUptoCard

/-- THE SECOND FORM's CARD OF 'casebooklaw03.ClockMakes'. -/
def clockMakesUptoCard : Claim7 := { stood := { row := clockMakesUptoRow, standIns := [], harness := (true, "1880f898bbaf09c6edac37723e6cc967d8125325b76a979ef0306a28409b5d6d"), looks := false }, kinds := [], alts := [], laidByText := true, laidKinds := [.data, .data, .data], laidTests := true, laidLooks := .later }
def ClockMakesUptoCardSaid : Prop := Claim7.holds Tryd.pinned (.plain (OpenSpec.upto clockMakesSpec)) clockMakesUptoCard

/-- THE SECOND FORM's CARD OF 'casebooklaw03.ClockSets'. -/
def clockSetsUptoCard : Claim7 := { stood := { row := clockSetsUptoRow, standIns := [], harness := (true, "1880f898bbaf09c6edac37723e6cc967d8125325b76a979ef0306a28409b5d6d"), looks := false }, kinds := [], alts := [], laidByText := true, laidKinds := [.data, .data, .data], laidTests := true, laidLooks := .later }
def ClockSetsUptoCardSaid : Prop := Claim7.holds Tryd.pinned (.plain (OpenSpec.upto clockSetsSpec)) clockSetsUptoCard
end Rows
end Go.Proofs.YtlobmblakilmiaaDoor
