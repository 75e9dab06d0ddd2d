/-
  DERIVED. GIVEN WITH THE SEED: THE CARDS: each row of YtdkcmfafganhhaaDoorRows.lean that lists a variable, with what it lists TIED to the program's text (the seventh form; the later family's looks); each row that meets fmt, with fmt's text TOLD by the authors' own Lean function (tested against real Go, not proved from fmt's source: count such statements apart). THE CARD IS WHAT COUNTS. Prove the row's statement (the work); the ties are given (YtdkcmfafganhhaaDoorTie.lean); close each card by the builder's one call (the guide's Derived/Test/ToyasCard.lean, 'card_holds'). Laid BY PROGRAM, IN A SANDBOX (cutbox-door.mjs). By AI agents, Wed Nov 11 2026. No macro, syntax, notation, axiom, sorry.
-/
import Derived.Test.YtdkcmfafganhhaaDoorRows
import GoSem.ClaimSeven
namespace Go.Proofs.YtdkcmfafganhhaaDoor
namespace Rows

/-- THE TIED CARD OF 'casebooklaw14.ObjectsComponents'. -/
def objectsComponentsCard : Claim7 := { stood := { row := objectsComponentsRow, standIns := [], harness := (true, "5507357303e68fb161500199b1a57d5b3532a6c570b0535d3ffe7b0033e882b4"), looks := false }, kinds := [], alts := [], laidByText := true, laidKinds := [.data, .data, .data], laidTests := true, laidLooks := .later }
def ObjectsComponentsCardSaid : Prop := Claim7.holds Tryd.pinned (.plain (OpenSpec.ofChange objectsComponentsSpec)) objectsComponentsCard

/-- THE TIED CARD OF 'casebooklaw14.ObjectsInside'. -/
def objectsInsideCard : Claim7 := { stood := { row := objectsInsideRow, standIns := [], harness := (true, "5507357303e68fb161500199b1a57d5b3532a6c570b0535d3ffe7b0033e882b4"), looks := false }, kinds := [], alts := [], laidByText := true, laidKinds := [.data, .data, .data], laidTests := true, laidLooks := .later }
def ObjectsInsideCardSaid : Prop := Claim7.holds Tryd.pinned (.plain (OpenSpec.ofChange objectsInsideSpec)) objectsInsideCard

/-- THE SECOND FORM's CARD OF 'casebooklaw14.ObjectsComponents'. -/
def objectsComponentsUptoCard : Claim7 := { stood := { row := objectsComponentsUptoRow, standIns := [], harness := (true, "5507357303e68fb161500199b1a57d5b3532a6c570b0535d3ffe7b0033e882b4"), looks := false }, kinds := [], alts := [], laidByText := true, laidKinds := [.data, .data, .data], laidTests := true, laidLooks := .later }
def ObjectsComponentsUptoCardSaid : Prop := Claim7.holds Tryd.pinned (.plain (OpenSpec.upto objectsComponentsSpec)) objectsComponentsUptoCard

/-- THE SECOND FORM's CARD OF 'casebooklaw14.ObjectsInside'. -/
def objectsInsideUptoCard : Claim7 := { stood := { row := objectsInsideUptoRow, standIns := [], harness := (true, "5507357303e68fb161500199b1a57d5b3532a6c570b0535d3ffe7b0033e882b4"), looks := false }, kinds := [], alts := [], laidByText := true, laidKinds := [.data, .data, .data], laidTests := true, laidLooks := .later }
def ObjectsInsideUptoCardSaid : Prop := Claim7.holds Tryd.pinned (.plain (OpenSpec.upto objectsInsideSpec)) objectsInsideUptoCard
end Rows
end Go.Proofs.YtdkcmfafganhhaaDoor
