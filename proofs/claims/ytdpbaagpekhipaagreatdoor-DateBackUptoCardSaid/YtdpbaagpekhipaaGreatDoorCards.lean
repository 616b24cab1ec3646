/-
  DERIVED. GIVEN WITH THE SEED: THE CARDS: each row of YtdpbaagpekhipaaGreatDoorRows.lean that lists a variable, with what it lists TIED to the program's text (the seventh form; the later family's looks); each row that meets fmt, with fmt's text TOLD by the authors' own Lean function (tested against real Go, not proved from fmt's source: count such statements apart). THE CARD IS WHAT COUNTS. Prove the row's statement (the work); the ties are given (YtdpbaagpekhipaaGreatDoorTie.lean); close each card by the builder's one call (the guide's Derived/Test/ToyasCard.lean, 'card_holds'). Laid BY PROGRAM, IN A SANDBOX (cutbox-door.mjs). By AI agents, Wed Nov 11 2026. No macro, syntax, notation, axiom, sorry.
-/
import Derived.Test.YtdpbaagpekhipaaGreatDoorRows
import GoSem.ClaimSeven
namespace Go.Proofs.YtdpbaagpekhipaaGreatDoor
namespace Rows

/-- THE TIED CARD OF 'missivelaw10.DateTexts'. -/
def dateTextsCard : Claim7 := { stood := { row := dateTextsRow, standIns := [], harness := (true, "6e98e2299db9b4ea72b2310b9c908f21dbc8833d59bccf4b6d9b0304bad62c70"), looks := true }, kinds := [], alts := [], laidByText := true, laidKinds := [.data, .data, .data, .data, .sentinel, .sentinel, .pinned], laidTests := true, laidLooks := .later }
def DateTextsCardSaid : Prop := Claim7.holds Tryz.pinned (.plain (OpenSpec.ofChange dateTextsSpec)) dateTextsCard

/-- THE TIED CARD OF 'missivelaw10.DateTimes'. -/
def dateTimesCard : Claim7 := { stood := { row := dateTimesRow, standIns := [], harness := (true, "6e98e2299db9b4ea72b2310b9c908f21dbc8833d59bccf4b6d9b0304bad62c70"), looks := true }, kinds := [], alts := [], laidByText := true, laidKinds := [.data, .data, .data, .data, .sentinel, .sentinel, .pinned], laidTests := true, laidLooks := .later }
def DateTimesCardSaid : Prop := Claim7.holds Tryz.pinned (.plain (OpenSpec.ofChange dateTimesSpec)) dateTimesCard

/-- THE TIED CARD OF 'missivelaw10.DateTold'. -/
def dateToldCard : Claim7 := { stood := { row := dateToldRow, standIns := [], harness := (true, "6e98e2299db9b4ea72b2310b9c908f21dbc8833d59bccf4b6d9b0304bad62c70"), looks := true }, kinds := [], alts := [], laidByText := true, laidKinds := [.data, .data, .data, .data, .sentinel, .sentinel, .pinned], laidTests := true, laidLooks := .later }
def DateToldCardSaid : Prop := Claim7.holds Tryz.pinned (.plain (OpenSpec.ofChange dateToldSpec)) dateToldCard

/-- THE TIED CARD OF 'missivelaw10.DateBack'. -/
def dateBackCard : Claim7 := { stood := { row := dateBackRow, standIns := [], harness := (true, "6e98e2299db9b4ea72b2310b9c908f21dbc8833d59bccf4b6d9b0304bad62c70"), looks := true }, kinds := [], alts := [], laidByText := true, laidKinds := [.data, .data, .data, .data, .sentinel, .sentinel, .pinned], laidTests := true, laidLooks := .later }
def DateBackCardSaid : Prop := Claim7.holds Tryz.pinned (.plain (OpenSpec.ofChange dateBackSpec)) dateBackCard

/-- THE SECOND FORM's CARD OF 'missivelaw10.DateTexts'. -/
def dateTextsUptoCard : Claim7 := { stood := { row := dateTextsUptoRow, standIns := [], harness := (true, "6e98e2299db9b4ea72b2310b9c908f21dbc8833d59bccf4b6d9b0304bad62c70"), looks := true }, kinds := [], alts := [], laidByText := true, laidKinds := [.data, .data, .data, .data, .sentinel, .sentinel, .pinned], laidTests := true, laidLooks := .later }
def DateTextsUptoCardSaid : Prop := Claim7.holds Tryz.pinned (.plain (OpenSpec.upto dateTextsSpec)) dateTextsUptoCard

/-- THE SECOND FORM's CARD OF 'missivelaw10.DateTimes'. -/
def dateTimesUptoCard : Claim7 := { stood := { row := dateTimesUptoRow, standIns := [], harness := (true, "6e98e2299db9b4ea72b2310b9c908f21dbc8833d59bccf4b6d9b0304bad62c70"), looks := true }, kinds := [], alts := [], laidByText := true, laidKinds := [.data, .data, .data, .data, .sentinel, .sentinel, .pinned], laidTests := true, laidLooks := .later }
def DateTimesUptoCardSaid : Prop := Claim7.holds Tryz.pinned (.plain (OpenSpec.upto dateTimesSpec)) dateTimesUptoCard

/-- THE SECOND FORM's CARD OF 'missivelaw10.DateTold'. -/
def dateToldUptoCard : Claim7 := { stood := { row := dateToldUptoRow, standIns := [], harness := (true, "6e98e2299db9b4ea72b2310b9c908f21dbc8833d59bccf4b6d9b0304bad62c70"), looks := true }, kinds := [], alts := [], laidByText := true, laidKinds := [.data, .data, .data, .data, .sentinel, .sentinel, .pinned], laidTests := true, laidLooks := .later }
def DateToldUptoCardSaid : Prop := Claim7.holds Tryz.pinned (.plain (OpenSpec.upto dateToldSpec)) dateToldUptoCard

/-- THE SECOND FORM's CARD OF 'missivelaw10.DateBack'. -/
def dateBackUptoCard : Claim7 := { stood := { row := dateBackUptoRow, standIns := [], harness := (true, "6e98e2299db9b4ea72b2310b9c908f21dbc8833d59bccf4b6d9b0304bad62c70"), looks := true }, kinds := [], alts := [], laidByText := true, laidKinds := [.data, .data, .data, .data, .sentinel, .sentinel, .pinned], laidTests := true, laidLooks := .later }
def DateBackUptoCardSaid : Prop := Claim7.holds Tryz.pinned (.plain (OpenSpec.upto dateBackSpec)) dateBackUptoCard
end Rows
end Go.Proofs.YtdpbaagpekhipaaGreatDoor
