/-
  DERIVED. GIVEN WITH THE SEED: THE CARDS: each row of YtlngnfkjpfokhaaDoorRows.lean that lists a variable, with what it lists TIED to the program's text (the seventh form; the later family's looks); each row that meets fmt, with fmt's text TOLD by the authors' own Lean function (tested against real Go, not proved from fmt's source: count such statements apart). THE CARD IS WHAT COUNTS. Prove the row's statement (the work); the ties are given (YtlngnfkjpfokhaaDoorTie.lean); close each card by the builder's one call (the guide's Derived/Test/ToyasCard.lean, 'card_holds'). Laid BY PROGRAM, IN A SANDBOX (cutbox-door.mjs). By AI agents, Wed Nov 11 2026. No macro, syntax, notation, axiom, sorry.
-/
import Derived.Test.YtlngnfkjpfokhaaDoorRows
import GoSem.ClaimSeven
namespace Go.Proofs.YtlngnfkjpfokhaaDoor
namespace Rows

/-- THE TIED CARD OF 'missivelaw19.BoxDoes'. -/
def boxDoesCard : Claim7 := { stood := { row := boxDoesRow, standIns := [], harness := (true, "00b517d3c23a6b359315d5d983a93e46e8e02864430d0ddab048f398c9cc46b1"), looks := false }, kinds := [], alts := [], laidByText := true, laidKinds := [.data, .data, .data], laidTests := true, laidLooks := .later }
def BoxDoesCardSaid : Prop := Claim7.holds Tryd.pinned (.plain (OpenSpec.ofChange boxDoesSpec)) boxDoesCard

/-- THE TIED CARD OF 'missivelaw19.BoxAsks'. -/
def boxAsksCard : Claim7 := { stood := { row := boxAsksRow, standIns := [], harness := (true, "00b517d3c23a6b359315d5d983a93e46e8e02864430d0ddab048f398c9cc46b1"), looks := false }, kinds := [], alts := [], laidByText := true, laidKinds := [.data, .data, .data], laidTests := true, laidLooks := .later }
def BoxAsksCardSaid : Prop := Claim7.holds Tryd.pinned (.plain (OpenSpec.ofChange boxAsksSpec)) boxAsksCard

/-- THE TIED CARD OF 'missivelaw19.BoxNever'. -/
def boxNeverCard : Claim7 := { stood := { row := boxNeverRow, standIns := [], harness := (true, "00b517d3c23a6b359315d5d983a93e46e8e02864430d0ddab048f398c9cc46b1"), looks := false }, kinds := [], alts := [], laidByText := true, laidKinds := [.data, .data, .data], laidTests := true, laidLooks := .later }
def BoxNeverCardSaid : Prop := Claim7.holds Tryd.pinned (.plain (OpenSpec.ofChange boxNeverSpec)) boxNeverCard

/-- THE TIED CARD OF 'missivelaw19.BoxApart'. -/
def boxApartCard : Claim7 := { stood := { row := boxApartRow, standIns := [], harness := (true, "00b517d3c23a6b359315d5d983a93e46e8e02864430d0ddab048f398c9cc46b1"), looks := false }, kinds := [], alts := [], laidByText := true, laidKinds := [.data, .data, .data], laidTests := true, laidLooks := .later }
def BoxApartCardSaid : Prop := Claim7.holds Tryd.pinned (.plain (OpenSpec.ofChange boxApartSpec)) boxApartCard

/-- THE TIED CARD OF 'missivelaw19.BoxPlaces'. -/
def boxPlacesCard : Claim7 := { stood := { row := boxPlacesRow, standIns := [], harness := (true, "00b517d3c23a6b359315d5d983a93e46e8e02864430d0ddab048f398c9cc46b1"), looks := false }, kinds := [], alts := [], laidByText := true, laidKinds := [.data, .data, .data], laidTests := true, laidLooks := .later }
def BoxPlacesCardSaid : Prop := Claim7.holds Tryd.pinned (.plain (OpenSpec.ofChange boxPlacesSpec)) boxPlacesCard

/-- THE SECOND FORM's CARD OF 'missivelaw19.BoxDoes'. -/
def boxDoesUptoCard : Claim7 := { stood := { row := boxDoesUptoRow, standIns := [], harness := (true, "00b517d3c23a6b359315d5d983a93e46e8e02864430d0ddab048f398c9cc46b1"), looks := false }, kinds := [], alts := [], laidByText := true, laidKinds := [.data, .data, .data], laidTests := true, laidLooks := .later }
def BoxDoesUptoCardSaid : Prop := Claim7.holds Tryd.pinned (.plain (OpenSpec.upto boxDoesSpec)) boxDoesUptoCard

/-- THE SECOND FORM's CARD OF 'missivelaw19.BoxAsks'. -/
def boxAsksUptoCard : Claim7 := { stood := { row := boxAsksUptoRow, standIns := [], harness := (true, "00b517d3c23a6b359315d5d983a93e46e8e02864430d0ddab048f398c9cc46b1"), looks := false }, kinds := [], alts := [], laidByText := true, laidKinds := [.data, .data, .data], laidTests := true, laidLooks := .later }
def BoxAsksUptoCardSaid : Prop := Claim7.holds Tryd.pinned (.plain (OpenSpec.upto boxAsksSpec)) boxAsksUptoCard

/-- THE SECOND FORM's CARD OF 'missivelaw19.BoxNever'. -/
def boxNeverUptoCard : Claim7 := { stood := { row := boxNeverUptoRow, standIns := [], harness := (true, "00b517d3c23a6b359315d5d983a93e46e8e02864430d0ddab048f398c9cc46b1"), looks := false }, kinds := [], alts := [], laidByText := true, laidKinds := [.data, .data, .data], laidTests := true, laidLooks := .later }
def BoxNeverUptoCardSaid : Prop := Claim7.holds Tryd.pinned (.plain (OpenSpec.upto boxNeverSpec)) boxNeverUptoCard

/-- THE SECOND FORM's CARD OF 'missivelaw19.BoxApart'. -/
def boxApartUptoCard : Claim7 := { stood := { row := boxApartUptoRow, standIns := [], harness := (true, "00b517d3c23a6b359315d5d983a93e46e8e02864430d0ddab048f398c9cc46b1"), looks := false }, kinds := [], alts := [], laidByText := true, laidKinds := [.data, .data, .data], laidTests := true, laidLooks := .later }
def BoxApartUptoCardSaid : Prop := Claim7.holds Tryd.pinned (.plain (OpenSpec.upto boxApartSpec)) boxApartUptoCard

/-- THE SECOND FORM's CARD OF 'missivelaw19.BoxPlaces'. -/
def boxPlacesUptoCard : Claim7 := { stood := { row := boxPlacesUptoRow, standIns := [], harness := (true, "00b517d3c23a6b359315d5d983a93e46e8e02864430d0ddab048f398c9cc46b1"), looks := false }, kinds := [], alts := [], laidByText := true, laidKinds := [.data, .data, .data], laidTests := true, laidLooks := .later }
def BoxPlacesUptoCardSaid : Prop := Claim7.holds Tryd.pinned (.plain (OpenSpec.upto boxPlacesSpec)) boxPlacesUptoCard
end Rows
end Go.Proofs.YtlngnfkjpfokhaaDoor
