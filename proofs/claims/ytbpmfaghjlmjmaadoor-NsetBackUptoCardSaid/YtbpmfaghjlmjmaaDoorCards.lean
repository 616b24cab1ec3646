/-
  DERIVED. GIVEN WITH THE SEED: THE CARDS: each row of YtbpmfaghjlmjmaaDoorRows.lean that lists a variable, with what it lists TIED to the program's text (the seventh form; the later family's looks); each row that meets fmt, with fmt's text TOLD by the authors' own Lean function (tested against real Go, not proved from fmt's source: count such statements apart). THE CARD IS WHAT COUNTS. Prove the row's statement (the work); the ties are given (YtbpmfaghjlmjmaaDoorTie.lean); close each card by the builder's one call (the guide's Derived/Test/ToyasCard.lean, 'card_holds'). Laid BY PROGRAM, IN A SANDBOX (cutbox-door.mjs). By AI agents, Wed Nov 11 2026. No macro, syntax, notation, axiom, sorry.
-/
import Derived.Test.YtbpmfaghjlmjmaaDoorRows
import GoSem.ClaimSeven
namespace Go.Proofs.YtbpmfaghjlmjmaaDoor
namespace Rows

/-- THE TIED CARD OF 'missivelaw03.NsetNumbers'. -/
def nsetNumbersCard : Claim7 := { stood := { row := nsetNumbersRow, standIns := [], harness := (true, "75037668c5590ef86f3b7cdb421788292238ef47bc9f7348eb8b2d3dcdcb8a26"), looks := true }, kinds := [], alts := [], laidByText := true, laidKinds := [.data, .data, .data, .data, .sentinel, .sentinel, .pinned], laidTests := true, laidLooks := .later }
def NsetNumbersCardSaid : Prop := Claim7.holds Tryd.pinned (.plain (OpenSpec.ofChange nsetNumbersSpec)) nsetNumbersCard

/-- THE TIED CARD OF 'missivelaw03.NsetPacks'. -/
def nsetPacksCard : Claim7 := { stood := { row := nsetPacksRow, standIns := [], harness := (true, "75037668c5590ef86f3b7cdb421788292238ef47bc9f7348eb8b2d3dcdcb8a26"), looks := true }, kinds := [], alts := [], laidByText := true, laidKinds := [.data, .data, .data, .data, .sentinel, .sentinel, .pinned], laidTests := true, laidLooks := .later }
def NsetPacksCardSaid : Prop := Claim7.holds Tryd.pinned (.plain (OpenSpec.ofChange nsetPacksSpec)) nsetPacksCard

/-- THE TIED CARD OF 'missivelaw03.NsetBack'. -/
def nsetBackCard : Claim7 := { stood := { row := nsetBackRow, standIns := [], harness := (true, "75037668c5590ef86f3b7cdb421788292238ef47bc9f7348eb8b2d3dcdcb8a26"), looks := true }, kinds := [], alts := [], laidByText := true, laidKinds := [.data, .data, .data, .data, .sentinel, .sentinel, .pinned], laidTests := true, laidLooks := .later }
def NsetBackCardSaid : Prop := Claim7.holds Tryd.pinned (.plain (OpenSpec.ofChange nsetBackSpec)) nsetBackCard

/-- THE TIED CARD OF 'missivelaw03.NsetSame'. -/
def nsetSameCard : Claim7 := { stood := { row := nsetSameRow, standIns := [], harness := (true, "75037668c5590ef86f3b7cdb421788292238ef47bc9f7348eb8b2d3dcdcb8a26"), looks := true }, kinds := [], alts := [], laidByText := true, laidKinds := [.data, .data, .data, .data, .sentinel, .sentinel, .pinned], laidTests := true, laidLooks := .later }
def NsetSameCardSaid : Prop := Claim7.holds Tryd.pinned (.plain (OpenSpec.ofChange nsetSameSpec)) nsetSameCard

/-- THE TIED CARD OF 'missivelaw03.NsetJoined'. -/
def nsetJoinedCard : Claim7 := { stood := { row := nsetJoinedRow, standIns := [], harness := (true, "75037668c5590ef86f3b7cdb421788292238ef47bc9f7348eb8b2d3dcdcb8a26"), looks := true }, kinds := [], alts := [], laidByText := true, laidKinds := [.data, .data, .data, .data, .sentinel, .sentinel, .pinned], laidTests := true, laidLooks := .later }
def NsetJoinedCardSaid : Prop := Claim7.holds Tryd.pinned (.plain (OpenSpec.ofChange nsetJoinedSpec)) nsetJoinedCard

/-- THE SECOND FORM's CARD OF 'missivelaw03.NsetNumbers'. -/
def nsetNumbersUptoCard : Claim7 := { stood := { row := nsetNumbersUptoRow, standIns := [], harness := (true, "75037668c5590ef86f3b7cdb421788292238ef47bc9f7348eb8b2d3dcdcb8a26"), looks := true }, kinds := [], alts := [], laidByText := true, laidKinds := [.data, .data, .data, .data, .sentinel, .sentinel, .pinned], laidTests := true, laidLooks := .later }
def NsetNumbersUptoCardSaid : Prop := Claim7.holds Tryd.pinned (.plain (OpenSpec.upto nsetNumbersSpec)) nsetNumbersUptoCard

/-- THE SECOND FORM's CARD OF 'missivelaw03.NsetPacks'. -/
def nsetPacksUptoCard : Claim7 := { stood := { row := nsetPacksUptoRow, standIns := [], harness := (true, "75037668c5590ef86f3b7cdb421788292238ef47bc9f7348eb8b2d3dcdcb8a26"), looks := true }, kinds := [], alts := [], laidByText := true, laidKinds := [.data, .data, .data, .data, .sentinel, .sentinel, .pinned], laidTests := true, laidLooks := .later }
def NsetPacksUptoCardSaid : Prop := Claim7.holds Tryd.pinned (.plain (OpenSpec.upto nsetPacksSpec)) nsetPacksUptoCard

/-- THE SECOND FORM's CARD OF 'missivelaw03.NsetBack'. -/
def nsetBackUptoCard : Claim7 := { stood := { row := nsetBackUptoRow, standIns := [], harness := (true, "75037668c5590ef86f3b7cdb421788292238ef47bc9f7348eb8b2d3dcdcb8a26"), looks := true }, kinds := [], alts := [], laidByText := true, laidKinds := [.data, .data, .data, .data, .sentinel, .sentinel, .pinned], laidTests := true, laidLooks := .later }
def NsetBackUptoCardSaid : Prop := Claim7.holds Tryd.pinned (.plain (OpenSpec.upto nsetBackSpec)) nsetBackUptoCard

/-- THE SECOND FORM's CARD OF 'missivelaw03.NsetSame'. -/
def nsetSameUptoCard : Claim7 := { stood := { row := nsetSameUptoRow, standIns := [], harness := (true, "75037668c5590ef86f3b7cdb421788292238ef47bc9f7348eb8b2d3dcdcb8a26"), looks := true }, kinds := [], alts := [], laidByText := true, laidKinds := [.data, .data, .data, .data, .sentinel, .sentinel, .pinned], laidTests := true, laidLooks := .later }
def NsetSameUptoCardSaid : Prop := Claim7.holds Tryd.pinned (.plain (OpenSpec.upto nsetSameSpec)) nsetSameUptoCard

/-- THE SECOND FORM's CARD OF 'missivelaw03.NsetJoined'. -/
def nsetJoinedUptoCard : Claim7 := { stood := { row := nsetJoinedUptoRow, standIns := [], harness := (true, "75037668c5590ef86f3b7cdb421788292238ef47bc9f7348eb8b2d3dcdcb8a26"), looks := true }, kinds := [], alts := [], laidByText := true, laidKinds := [.data, .data, .data, .data, .sentinel, .sentinel, .pinned], laidTests := true, laidLooks := .later }
def NsetJoinedUptoCardSaid : Prop := Claim7.holds Tryd.pinned (.plain (OpenSpec.upto nsetJoinedSpec)) nsetJoinedUptoCard
end Rows
end Go.Proofs.YtbpmfaghjlmjmaaDoor
