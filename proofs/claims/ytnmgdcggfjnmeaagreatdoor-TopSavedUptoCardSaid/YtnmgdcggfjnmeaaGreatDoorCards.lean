/-
  DERIVED. GIVEN WITH THE SEED: THE CARDS: each row of YtnmgdcggfjnmeaaGreatDoorRows.lean that lists a variable, with what it lists TIED to the program's text (the seventh form; the later family's looks); each row that meets fmt, with fmt's text TOLD by the authors' own Lean function (tested against real Go, not proved from fmt's source: count such statements apart). THE CARD IS WHAT COUNTS. Prove the row's statement (the work); the ties are given (YtnmgdcggfjnmeaaGreatDoorTie.lean); close each card by the builder's one call (the guide's Derived/Test/ToyasCard.lean, 'card_holds'). Laid BY PROGRAM, IN A SANDBOX (cutbox-door.mjs). By AI agents, Wed Nov 11 2026. No macro, syntax, notation, axiom, sorry.
-/
import Derived.Test.YtnmgdcggfjnmeaaGreatDoorRows
import GoSem.ClaimSeven
namespace Go.Proofs.YtnmgdcggfjnmeaaGreatDoor
namespace Rows

/-- THE TIED CARD OF 'missivetop.TopSaved'. -/
def topSavedCard : Claim7 := { stood := { row := topSavedRow, standIns := [], harness := (true, "4817811ebddae2a335914f9f20618223830f91045ed37b068d3a7cf5e4d243cc"), looks := true }, kinds := [], alts := [], laidByText := true, laidKinds := [.data, .data, .data, .data, .sentinel, .sentinel, .pinned], laidTests := true, laidLooks := .later }
def TopSavedCardSaid : Prop := Claim7.holds Tryz.pinned (.plain (OpenSpec.ofChange topSavedSpec)) topSavedCard

/-- THE SECOND FORM's CARD OF 'missivetop.TopSaved'. -/
def topSavedUptoCard : Claim7 := { stood := { row := topSavedUptoRow, standIns := [], harness := (true, "4817811ebddae2a335914f9f20618223830f91045ed37b068d3a7cf5e4d243cc"), looks := true }, kinds := [], alts := [], laidByText := true, laidKinds := [.data, .data, .data, .data, .sentinel, .sentinel, .pinned], laidTests := true, laidLooks := .later }
def TopSavedUptoCardSaid : Prop := Claim7.holds Tryz.pinned (.plain (OpenSpec.upto topSavedSpec)) topSavedUptoCard
end Rows
end Go.Proofs.YtnmgdcggfjnmeaaGreatDoor
