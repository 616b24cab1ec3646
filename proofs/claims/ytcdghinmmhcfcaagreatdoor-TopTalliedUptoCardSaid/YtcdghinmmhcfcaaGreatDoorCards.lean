/-
  DERIVED. GIVEN WITH THE SEED: THE CARDS: each row of YtcdghinmmhcfcaaGreatDoorRows.lean that lists a variable, with what it lists TIED to the program's text (the seventh form; the later family's looks); each row that meets fmt, with fmt's text TOLD by the authors' own Lean function (tested against real Go, not proved from fmt's source: count such statements apart). THE CARD IS WHAT COUNTS. Prove the row's statement (the work); the ties are given (YtcdghinmmhcfcaaGreatDoorTie.lean); close each card by the builder's one call (the guide's Derived/Test/ToyasCard.lean, 'card_holds'). Laid BY PROGRAM, IN A SANDBOX (cutbox-door.mjs). By AI agents, Wed Nov 11 2026. No macro, syntax, notation, axiom, sorry.
-/
import Derived.Test.YtcdghinmmhcfcaaGreatDoorRows
import GoSem.ClaimSeven
namespace Go.Proofs.YtcdghinmmhcfcaaGreatDoor
namespace Rows

/-- THE TIED CARD OF 'missivelaw27.TallyTells'. -/
def tallyTellsCard : Claim7 := { stood := { row := tallyTellsRow, standIns := [], harness := (true, "3b7b2111ea7e15f72dad7609eab61b70af572c82cbb705ca23f6709898497efe"), looks := true }, kinds := [], alts := [], laidByText := true, laidKinds := [.data, .data, .data, .data, .sentinel, .sentinel, .data, .pinned], laidTests := true, laidLooks := .later }
def TallyTellsCardSaid : Prop := Claim7.holds Tryz.pinned (.plain (OpenSpec.ofChange tallyTellsSpec)) tallyTellsCard

/-- THE TIED CARD OF 'missivelaw27.TallyHolds'. -/
def tallyHoldsCard : Claim7 := { stood := { row := tallyHoldsRow, standIns := [], harness := (true, "3b7b2111ea7e15f72dad7609eab61b70af572c82cbb705ca23f6709898497efe"), looks := true }, kinds := [], alts := [], laidByText := true, laidKinds := [.data, .data, .data, .data, .sentinel, .sentinel, .data, .pinned], laidTests := true, laidLooks := .later }
def TallyHoldsCardSaid : Prop := Claim7.holds Tryz.pinned (.plain (OpenSpec.ofChange tallyHoldsSpec)) tallyHoldsCard

/-- THE TIED CARD OF 'missivetop.TopTallied'. -/
def topTalliedCard : Claim7 := { stood := { row := topTalliedRow, standIns := [], harness := (true, "3b7b2111ea7e15f72dad7609eab61b70af572c82cbb705ca23f6709898497efe"), looks := true }, kinds := [], alts := [], laidByText := true, laidKinds := [.data, .data, .data, .data, .sentinel, .sentinel, .data, .pinned], laidTests := true, laidLooks := .later }
def TopTalliedCardSaid : Prop := Claim7.holds Tryz.pinned (.plain (OpenSpec.ofChange topTalliedSpec)) topTalliedCard

/-- THE SECOND FORM's CARD OF 'missivelaw27.TallyTells'. -/
def tallyTellsUptoCard : Claim7 := { stood := { row := tallyTellsUptoRow, standIns := [], harness := (true, "3b7b2111ea7e15f72dad7609eab61b70af572c82cbb705ca23f6709898497efe"), looks := true }, kinds := [], alts := [], laidByText := true, laidKinds := [.data, .data, .data, .data, .sentinel, .sentinel, .data, .pinned], laidTests := true, laidLooks := .later }
def TallyTellsUptoCardSaid : Prop := Claim7.holds Tryz.pinned (.plain (OpenSpec.upto tallyTellsSpec)) tallyTellsUptoCard

/-- THE SECOND FORM's CARD OF 'missivelaw27.TallyHolds'. -/
def tallyHoldsUptoCard : Claim7 := { stood := { row := tallyHoldsUptoRow, standIns := [], harness := (true, "3b7b2111ea7e15f72dad7609eab61b70af572c82cbb705ca23f6709898497efe"), looks := true }, kinds := [], alts := [], laidByText := true, laidKinds := [.data, .data, .data, .data, .sentinel, .sentinel, .data, .pinned], laidTests := true, laidLooks := .later }
def TallyHoldsUptoCardSaid : Prop := Claim7.holds Tryz.pinned (.plain (OpenSpec.upto tallyHoldsSpec)) tallyHoldsUptoCard

/-- THE SECOND FORM's CARD OF 'missivetop.TopTallied'. -/
def topTalliedUptoCard : Claim7 := { stood := { row := topTalliedUptoRow, standIns := [], harness := (true, "3b7b2111ea7e15f72dad7609eab61b70af572c82cbb705ca23f6709898497efe"), looks := true }, kinds := [], alts := [], laidByText := true, laidKinds := [.data, .data, .data, .data, .sentinel, .sentinel, .data, .pinned], laidTests := true, laidLooks := .later }
def TopTalliedUptoCardSaid : Prop := Claim7.holds Tryz.pinned (.plain (OpenSpec.upto topTalliedSpec)) topTalliedUptoCard
end Rows
end Go.Proofs.YtcdghinmmhcfcaaGreatDoor
