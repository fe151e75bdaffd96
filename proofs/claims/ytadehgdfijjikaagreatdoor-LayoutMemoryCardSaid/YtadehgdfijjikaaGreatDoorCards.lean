/-
  DERIVED. GIVEN WITH THE SEED: THE CARDS: each row of YtadehgdfijjikaaGreatDoorRows.lean that lists a variable, with what it lists TIED to the program's text (the seventh form; the later family's looks); each row that meets fmt, with fmt's text TOLD by the authors' own Lean function (tested against real Go, not proved from fmt's source: count such statements apart). THE CARD IS WHAT COUNTS. Prove the row's statement (the work); the ties are given (YtadehgdfijjikaaGreatDoorTie.lean); close each card by the builder's one call (the guide's Derived/Test/ToyasCard.lean, 'card_holds'). Laid BY PROGRAM, IN A SANDBOX (cutbox-door.mjs). By AI agents, Wed Nov 11 2026. No macro, syntax, notation, axiom, sorry.
-/
import Derived.Test.YtadehgdfijjikaaGreatDoorRows
import GoSem.ClaimSeven
namespace Go.Proofs.YtadehgdfijjikaaGreatDoor
namespace Rows

/-- THE TIED CARD OF 'pliantlaw09.LayoutVariables'. -/
def layoutVariablesCard : Claim7 := { stood := { row := layoutVariablesRow, standIns := [], harness := (true, "0b37673327b5ed7bc480cf8098c4a44163534662d2a1e5311548fec35bbad9f8"), looks := true }, kinds := [], alts := [], laidByText := true, laidKinds := [.data, .data, .data, .data, .sentinel, .sentinel, .data, .pinned], laidTests := true, laidLooks := .later }
def LayoutVariablesCardSaid : Prop := Claim7.holds Tryz.pinned (.plain (OpenSpec.ofChange layoutVariablesSpec)) layoutVariablesCard

/-- THE TIED CARD OF 'pliantlaw09.LayoutAligned'. -/
def layoutAlignedCard : Claim7 := { stood := { row := layoutAlignedRow, standIns := [], harness := (true, "0b37673327b5ed7bc480cf8098c4a44163534662d2a1e5311548fec35bbad9f8"), looks := true }, kinds := [], alts := [], laidByText := true, laidKinds := [.data, .data, .data, .data, .sentinel, .sentinel, .data, .pinned], laidTests := true, laidLooks := .later }
def LayoutAlignedCardSaid : Prop := Claim7.holds Tryz.pinned (.plain (OpenSpec.ofChange layoutAlignedSpec)) layoutAlignedCard

/-- THE TIED CARD OF 'pliantlaw09.LayoutFrames'. -/
def layoutFramesCard : Claim7 := { stood := { row := layoutFramesRow, standIns := [], harness := (true, "0b37673327b5ed7bc480cf8098c4a44163534662d2a1e5311548fec35bbad9f8"), looks := true }, kinds := [], alts := [], laidByText := true, laidKinds := [.data, .data, .data, .data, .sentinel, .sentinel, .data, .pinned], laidTests := true, laidLooks := .later }
def LayoutFramesCardSaid : Prop := Claim7.holds Tryz.pinned (.plain (OpenSpec.ofChange layoutFramesSpec)) layoutFramesCard

/-- THE TIED CARD OF 'pliantlaw09.LayoutUnits'. -/
def layoutUnitsCard : Claim7 := { stood := { row := layoutUnitsRow, standIns := [], harness := (true, "0b37673327b5ed7bc480cf8098c4a44163534662d2a1e5311548fec35bbad9f8"), looks := true }, kinds := [], alts := [], laidByText := true, laidKinds := [.data, .data, .data, .data, .sentinel, .sentinel, .data, .pinned], laidTests := true, laidLooks := .later }
def LayoutUnitsCardSaid : Prop := Claim7.holds Tryz.pinned (.plain (OpenSpec.ofChange layoutUnitsSpec)) layoutUnitsCard

/-- THE TIED CARD OF 'pliantlaw09.LayoutMoved'. -/
def layoutMovedCard : Claim7 := { stood := { row := layoutMovedRow, standIns := [], harness := (true, "0b37673327b5ed7bc480cf8098c4a44163534662d2a1e5311548fec35bbad9f8"), looks := true }, kinds := [], alts := [], laidByText := true, laidKinds := [.data, .data, .data, .data, .sentinel, .sentinel, .data, .pinned], laidTests := true, laidLooks := .later }
def LayoutMovedCardSaid : Prop := Claim7.holds Tryz.pinned (.plain (OpenSpec.ofChange layoutMovedSpec)) layoutMovedCard

/-- THE TIED CARD OF 'pliantlaw09.LayoutGrouped'. -/
def layoutGroupedCard : Claim7 := { stood := { row := layoutGroupedRow, standIns := [], harness := (true, "0b37673327b5ed7bc480cf8098c4a44163534662d2a1e5311548fec35bbad9f8"), looks := true }, kinds := [], alts := [], laidByText := true, laidKinds := [.data, .data, .data, .data, .sentinel, .sentinel, .data, .pinned], laidTests := true, laidLooks := .later }
def LayoutGroupedCardSaid : Prop := Claim7.holds Tryz.pinned (.plain (OpenSpec.ofChange layoutGroupedSpec)) layoutGroupedCard

/-- THE TIED CARD OF 'pliantlaw09.LayoutApart'. -/
def layoutApartCard : Claim7 := { stood := { row := layoutApartRow, standIns := [], harness := (true, "0b37673327b5ed7bc480cf8098c4a44163534662d2a1e5311548fec35bbad9f8"), looks := true }, kinds := [], alts := [], laidByText := true, laidKinds := [.data, .data, .data, .data, .sentinel, .sentinel, .data, .pinned], laidTests := true, laidLooks := .later }
def LayoutApartCardSaid : Prop := Claim7.holds Tryz.pinned (.plain (OpenSpec.ofChange layoutApartSpec)) layoutApartCard

/-- THE TIED CARD OF 'pliantlaw09.LayoutRows'. -/
def layoutRowsCard : Claim7 := { stood := { row := layoutRowsRow, standIns := [], harness := (true, "0b37673327b5ed7bc480cf8098c4a44163534662d2a1e5311548fec35bbad9f8"), looks := true }, kinds := [], alts := [], laidByText := true, laidKinds := [.data, .data, .data, .data, .sentinel, .sentinel, .data, .pinned], laidTests := true, laidLooks := .later }
def LayoutRowsCardSaid : Prop := Claim7.holds Tryz.pinned (.plain (OpenSpec.ofChange layoutRowsSpec)) layoutRowsCard

/-- THE TIED CARD OF 'pliantlaw09.LayoutPlaces'. -/
def layoutPlacesCard : Claim7 := { stood := { row := layoutPlacesRow, standIns := [], harness := (true, "0b37673327b5ed7bc480cf8098c4a44163534662d2a1e5311548fec35bbad9f8"), looks := true }, kinds := [], alts := [], laidByText := true, laidKinds := [.data, .data, .data, .data, .sentinel, .sentinel, .data, .pinned], laidTests := true, laidLooks := .later }
def LayoutPlacesCardSaid : Prop := Claim7.holds Tryz.pinned (.plain (OpenSpec.ofChange layoutPlacesSpec)) layoutPlacesCard

/-- THE TIED CARD OF 'pliantlaw09.LayoutMemory'. -/
def layoutMemoryCard : Claim7 := { stood := { row := layoutMemoryRow, standIns := [], harness := (true, "0b37673327b5ed7bc480cf8098c4a44163534662d2a1e5311548fec35bbad9f8"), looks := true }, kinds := [], alts := [], laidByText := true, laidKinds := [.data, .data, .data, .data, .sentinel, .sentinel, .data, .pinned], laidTests := true, laidLooks := .later }
def LayoutMemoryCardSaid : Prop := Claim7.holds Tryz.pinned (.plain (OpenSpec.ofChange layoutMemorySpec)) layoutMemoryCard

/-- THE TIED CARD OF 'pliantlaw09.LayoutCopied'. -/
def layoutCopiedCard : Claim7 := { stood := { row := layoutCopiedRow, standIns := [], harness := (true, "0b37673327b5ed7bc480cf8098c4a44163534662d2a1e5311548fec35bbad9f8"), looks := true }, kinds := [], alts := [], laidByText := true, laidKinds := [.data, .data, .data, .data, .sentinel, .sentinel, .data, .pinned], laidTests := true, laidLooks := .later }
def LayoutCopiedCardSaid : Prop := Claim7.holds Tryz.pinned (.plain (OpenSpec.ofChange layoutCopiedSpec)) layoutCopiedCard

/-- THE SECOND FORM's CARD OF 'pliantlaw09.LayoutVariables'. -/
def layoutVariablesUptoCard : Claim7 := { stood := { row := layoutVariablesUptoRow, standIns := [], harness := (true, "0b37673327b5ed7bc480cf8098c4a44163534662d2a1e5311548fec35bbad9f8"), looks := true }, kinds := [], alts := [], laidByText := true, laidKinds := [.data, .data, .data, .data, .sentinel, .sentinel, .data, .pinned], laidTests := true, laidLooks := .later }
def LayoutVariablesUptoCardSaid : Prop := Claim7.holds Tryz.pinned (.plain (OpenSpec.upto layoutVariablesSpec)) layoutVariablesUptoCard

/-- THE SECOND FORM's CARD OF 'pliantlaw09.LayoutAligned'. -/
def layoutAlignedUptoCard : Claim7 := { stood := { row := layoutAlignedUptoRow, standIns := [], harness := (true, "0b37673327b5ed7bc480cf8098c4a44163534662d2a1e5311548fec35bbad9f8"), looks := true }, kinds := [], alts := [], laidByText := true, laidKinds := [.data, .data, .data, .data, .sentinel, .sentinel, .data, .pinned], laidTests := true, laidLooks := .later }
def LayoutAlignedUptoCardSaid : Prop := Claim7.holds Tryz.pinned (.plain (OpenSpec.upto layoutAlignedSpec)) layoutAlignedUptoCard

/-- THE SECOND FORM's CARD OF 'pliantlaw09.LayoutFrames'. -/
def layoutFramesUptoCard : Claim7 := { stood := { row := layoutFramesUptoRow, standIns := [], harness := (true, "0b37673327b5ed7bc480cf8098c4a44163534662d2a1e5311548fec35bbad9f8"), looks := true }, kinds := [], alts := [], laidByText := true, laidKinds := [.data, .data, .data, .data, .sentinel, .sentinel, .data, .pinned], laidTests := true, laidLooks := .later }
def LayoutFramesUptoCardSaid : Prop := Claim7.holds Tryz.pinned (.plain (OpenSpec.upto layoutFramesSpec)) layoutFramesUptoCard

/-- THE SECOND FORM's CARD OF 'pliantlaw09.LayoutUnits'. -/
def layoutUnitsUptoCard : Claim7 := { stood := { row := layoutUnitsUptoRow, standIns := [], harness := (true, "0b37673327b5ed7bc480cf8098c4a44163534662d2a1e5311548fec35bbad9f8"), looks := true }, kinds := [], alts := [], laidByText := true, laidKinds := [.data, .data, .data, .data, .sentinel, .sentinel, .data, .pinned], laidTests := true, laidLooks := .later }
def LayoutUnitsUptoCardSaid : Prop := Claim7.holds Tryz.pinned (.plain (OpenSpec.upto layoutUnitsSpec)) layoutUnitsUptoCard

/-- THE SECOND FORM's CARD OF 'pliantlaw09.LayoutMoved'. -/
def layoutMovedUptoCard : Claim7 := { stood := { row := layoutMovedUptoRow, standIns := [], harness := (true, "0b37673327b5ed7bc480cf8098c4a44163534662d2a1e5311548fec35bbad9f8"), looks := true }, kinds := [], alts := [], laidByText := true, laidKinds := [.data, .data, .data, .data, .sentinel, .sentinel, .data, .pinned], laidTests := true, laidLooks := .later }
def LayoutMovedUptoCardSaid : Prop := Claim7.holds Tryz.pinned (.plain (OpenSpec.upto layoutMovedSpec)) layoutMovedUptoCard

/-- THE SECOND FORM's CARD OF 'pliantlaw09.LayoutGrouped'. -/
def layoutGroupedUptoCard : Claim7 := { stood := { row := layoutGroupedUptoRow, standIns := [], harness := (true, "0b37673327b5ed7bc480cf8098c4a44163534662d2a1e5311548fec35bbad9f8"), looks := true }, kinds := [], alts := [], laidByText := true, laidKinds := [.data, .data, .data, .data, .sentinel, .sentinel, .data, .pinned], laidTests := true, laidLooks := .later }
def LayoutGroupedUptoCardSaid : Prop := Claim7.holds Tryz.pinned (.plain (OpenSpec.upto layoutGroupedSpec)) layoutGroupedUptoCard

/-- THE SECOND FORM's CARD OF 'pliantlaw09.LayoutApart'. -/
def layoutApartUptoCard : Claim7 := { stood := { row := layoutApartUptoRow, standIns := [], harness := (true, "0b37673327b5ed7bc480cf8098c4a44163534662d2a1e5311548fec35bbad9f8"), looks := true }, kinds := [], alts := [], laidByText := true, laidKinds := [.data, .data, .data, .data, .sentinel, .sentinel, .data, .pinned], laidTests := true, laidLooks := .later }
def LayoutApartUptoCardSaid : Prop := Claim7.holds Tryz.pinned (.plain (OpenSpec.upto layoutApartSpec)) layoutApartUptoCard

/-- THE SECOND FORM's CARD OF 'pliantlaw09.LayoutRows'. -/
def layoutRowsUptoCard : Claim7 := { stood := { row := layoutRowsUptoRow, standIns := [], harness := (true, "0b37673327b5ed7bc480cf8098c4a44163534662d2a1e5311548fec35bbad9f8"), looks := true }, kinds := [], alts := [], laidByText := true, laidKinds := [.data, .data, .data, .data, .sentinel, .sentinel, .data, .pinned], laidTests := true, laidLooks := .later }
def LayoutRowsUptoCardSaid : Prop := Claim7.holds Tryz.pinned (.plain (OpenSpec.upto layoutRowsSpec)) layoutRowsUptoCard

/-- THE SECOND FORM's CARD OF 'pliantlaw09.LayoutPlaces'. -/
def layoutPlacesUptoCard : Claim7 := { stood := { row := layoutPlacesUptoRow, standIns := [], harness := (true, "0b37673327b5ed7bc480cf8098c4a44163534662d2a1e5311548fec35bbad9f8"), looks := true }, kinds := [], alts := [], laidByText := true, laidKinds := [.data, .data, .data, .data, .sentinel, .sentinel, .data, .pinned], laidTests := true, laidLooks := .later }
def LayoutPlacesUptoCardSaid : Prop := Claim7.holds Tryz.pinned (.plain (OpenSpec.upto layoutPlacesSpec)) layoutPlacesUptoCard

/-- THE SECOND FORM's CARD OF 'pliantlaw09.LayoutMemory'. -/
def layoutMemoryUptoCard : Claim7 := { stood := { row := layoutMemoryUptoRow, standIns := [], harness := (true, "0b37673327b5ed7bc480cf8098c4a44163534662d2a1e5311548fec35bbad9f8"), looks := true }, kinds := [], alts := [], laidByText := true, laidKinds := [.data, .data, .data, .data, .sentinel, .sentinel, .data, .pinned], laidTests := true, laidLooks := .later }
def LayoutMemoryUptoCardSaid : Prop := Claim7.holds Tryz.pinned (.plain (OpenSpec.upto layoutMemorySpec)) layoutMemoryUptoCard

/-- THE SECOND FORM's CARD OF 'pliantlaw09.LayoutCopied'. -/
def layoutCopiedUptoCard : Claim7 := { stood := { row := layoutCopiedUptoRow, standIns := [], harness := (true, "0b37673327b5ed7bc480cf8098c4a44163534662d2a1e5311548fec35bbad9f8"), looks := true }, kinds := [], alts := [], laidByText := true, laidKinds := [.data, .data, .data, .data, .sentinel, .sentinel, .data, .pinned], laidTests := true, laidLooks := .later }
def LayoutCopiedUptoCardSaid : Prop := Claim7.holds Tryz.pinned (.plain (OpenSpec.upto layoutCopiedSpec)) layoutCopiedUptoCard
end Rows
end Go.Proofs.YtadehgdfijjikaaGreatDoor
