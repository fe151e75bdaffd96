/-
  DERIVED. GIVEN WITH THE SEED: THE CARDS: each row of YtadaoelabimmkaaGreatDoorRows.lean that lists a variable, with what it lists TIED to the program's text (the seventh form; the later family's looks); each row that meets fmt, with fmt's text TOLD by the authors' own Lean function (tested against real Go, not proved from fmt's source: count such statements apart). THE CARD IS WHAT COUNTS. Prove the row's statement (the work); the ties are given (YtadaoelabimmkaaGreatDoorTie.lean); close each card by the builder's one call (the guide's Derived/Test/ToyasCard.lean, 'card_holds'). Laid BY PROGRAM, IN A SANDBOX (cutbox-door.mjs). By AI agents, Wed Nov 11 2026. No macro, syntax, notation, axiom, sorry.
-/
import Derived.Test.YtadaoelabimmkaaGreatDoorRows
import GoSem.ClaimSeven
namespace Go.Proofs.YtadaoelabimmkaaGreatDoor
namespace Rows

/-- THE TIED CARD OF 'pliantlaw09.LayoutGap'. -/
def layoutGapCard : Claim7 := { stood := { row := layoutGapRow, standIns := [], harness := (true, "2a73ca2980fb23572ff0a46f2e5e5e64e4adc5533abdaf4a7c0ee98f426d2df6"), looks := true }, kinds := [], alts := [], laidByText := true, laidKinds := [.data, .data, .data, .data, .sentinel, .sentinel, .data, .pinned], laidTests := true, laidLooks := .later }
def LayoutGapCardSaid : Prop := Claim7.holds Tryz.pinned (.plain (OpenSpec.ofChange layoutGapSpec)) layoutGapCard

/-- THE TIED CARD OF 'pliantlaw09.LayoutTypes'. -/
def layoutTypesCard : Claim7 := { stood := { row := layoutTypesRow, standIns := [], harness := (true, "2a73ca2980fb23572ff0a46f2e5e5e64e4adc5533abdaf4a7c0ee98f426d2df6"), looks := true }, kinds := [], alts := [], laidByText := true, laidKinds := [.data, .data, .data, .data, .sentinel, .sentinel, .data, .pinned], laidTests := true, laidLooks := .later }
def LayoutTypesCardSaid : Prop := Claim7.holds Tryz.pinned (.plain (OpenSpec.ofChange layoutTypesSpec)) layoutTypesCard

/-- THE TIED CARD OF 'pliantlaw09.LayoutBits'. -/
def layoutBitsCard : Claim7 := { stood := { row := layoutBitsRow, standIns := [], harness := (true, "2a73ca2980fb23572ff0a46f2e5e5e64e4adc5533abdaf4a7c0ee98f426d2df6"), looks := true }, kinds := [], alts := [], laidByText := true, laidKinds := [.data, .data, .data, .data, .sentinel, .sentinel, .data, .pinned], laidTests := true, laidLooks := .later }
def LayoutBitsCardSaid : Prop := Claim7.holds Tryz.pinned (.plain (OpenSpec.ofChange layoutBitsSpec)) layoutBitsCard

/-- THE TIED CARD OF 'pliantlaw09.LayoutBack'. -/
def layoutBackCard : Claim7 := { stood := { row := layoutBackRow, standIns := [], harness := (true, "2a73ca2980fb23572ff0a46f2e5e5e64e4adc5533abdaf4a7c0ee98f426d2df6"), looks := true }, kinds := [], alts := [], laidByText := true, laidKinds := [.data, .data, .data, .data, .sentinel, .sentinel, .data, .pinned], laidTests := true, laidLooks := .later }
def LayoutBackCardSaid : Prop := Claim7.holds Tryz.pinned (.plain (OpenSpec.ofChange layoutBackSpec)) layoutBackCard

/-- THE TIED CARD OF 'pliantlaw09.LayoutStored'. -/
def layoutStoredCard : Claim7 := { stood := { row := layoutStoredRow, standIns := [], harness := (true, "2a73ca2980fb23572ff0a46f2e5e5e64e4adc5533abdaf4a7c0ee98f426d2df6"), looks := true }, kinds := [], alts := [], laidByText := true, laidKinds := [.data, .data, .data, .data, .sentinel, .sentinel, .data, .pinned], laidTests := true, laidLooks := .later }
def LayoutStoredCardSaid : Prop := Claim7.holds Tryz.pinned (.plain (OpenSpec.ofChange layoutStoredSpec)) layoutStoredCard

/-- THE TIED CARD OF 'pliantlaw09.LayoutClones'. -/
def layoutClonesCard : Claim7 := { stood := { row := layoutClonesRow, standIns := [], harness := (true, "2a73ca2980fb23572ff0a46f2e5e5e64e4adc5533abdaf4a7c0ee98f426d2df6"), looks := true }, kinds := [], alts := [], laidByText := true, laidKinds := [.data, .data, .data, .data, .sentinel, .sentinel, .data, .pinned], laidTests := true, laidLooks := .later }
def LayoutClonesCardSaid : Prop := Claim7.holds Tryz.pinned (.plain (OpenSpec.ofChange layoutClonesSpec)) layoutClonesCard

/-- THE SECOND FORM's CARD OF 'pliantlaw09.LayoutGap'. -/
def layoutGapUptoCard : Claim7 := { stood := { row := layoutGapUptoRow, standIns := [], harness := (true, "2a73ca2980fb23572ff0a46f2e5e5e64e4adc5533abdaf4a7c0ee98f426d2df6"), looks := true }, kinds := [], alts := [], laidByText := true, laidKinds := [.data, .data, .data, .data, .sentinel, .sentinel, .data, .pinned], laidTests := true, laidLooks := .later }
def LayoutGapUptoCardSaid : Prop := Claim7.holds Tryz.pinned (.plain (OpenSpec.upto layoutGapSpec)) layoutGapUptoCard

/-- THE SECOND FORM's CARD OF 'pliantlaw09.LayoutTypes'. -/
def layoutTypesUptoCard : Claim7 := { stood := { row := layoutTypesUptoRow, standIns := [], harness := (true, "2a73ca2980fb23572ff0a46f2e5e5e64e4adc5533abdaf4a7c0ee98f426d2df6"), looks := true }, kinds := [], alts := [], laidByText := true, laidKinds := [.data, .data, .data, .data, .sentinel, .sentinel, .data, .pinned], laidTests := true, laidLooks := .later }
def LayoutTypesUptoCardSaid : Prop := Claim7.holds Tryz.pinned (.plain (OpenSpec.upto layoutTypesSpec)) layoutTypesUptoCard

/-- THE SECOND FORM's CARD OF 'pliantlaw09.LayoutBits'. -/
def layoutBitsUptoCard : Claim7 := { stood := { row := layoutBitsUptoRow, standIns := [], harness := (true, "2a73ca2980fb23572ff0a46f2e5e5e64e4adc5533abdaf4a7c0ee98f426d2df6"), looks := true }, kinds := [], alts := [], laidByText := true, laidKinds := [.data, .data, .data, .data, .sentinel, .sentinel, .data, .pinned], laidTests := true, laidLooks := .later }
def LayoutBitsUptoCardSaid : Prop := Claim7.holds Tryz.pinned (.plain (OpenSpec.upto layoutBitsSpec)) layoutBitsUptoCard

/-- THE SECOND FORM's CARD OF 'pliantlaw09.LayoutBack'. -/
def layoutBackUptoCard : Claim7 := { stood := { row := layoutBackUptoRow, standIns := [], harness := (true, "2a73ca2980fb23572ff0a46f2e5e5e64e4adc5533abdaf4a7c0ee98f426d2df6"), looks := true }, kinds := [], alts := [], laidByText := true, laidKinds := [.data, .data, .data, .data, .sentinel, .sentinel, .data, .pinned], laidTests := true, laidLooks := .later }
def LayoutBackUptoCardSaid : Prop := Claim7.holds Tryz.pinned (.plain (OpenSpec.upto layoutBackSpec)) layoutBackUptoCard

/-- THE SECOND FORM's CARD OF 'pliantlaw09.LayoutStored'. -/
def layoutStoredUptoCard : Claim7 := { stood := { row := layoutStoredUptoRow, standIns := [], harness := (true, "2a73ca2980fb23572ff0a46f2e5e5e64e4adc5533abdaf4a7c0ee98f426d2df6"), looks := true }, kinds := [], alts := [], laidByText := true, laidKinds := [.data, .data, .data, .data, .sentinel, .sentinel, .data, .pinned], laidTests := true, laidLooks := .later }
def LayoutStoredUptoCardSaid : Prop := Claim7.holds Tryz.pinned (.plain (OpenSpec.upto layoutStoredSpec)) layoutStoredUptoCard

/-- THE SECOND FORM's CARD OF 'pliantlaw09.LayoutClones'. -/
def layoutClonesUptoCard : Claim7 := { stood := { row := layoutClonesUptoRow, standIns := [], harness := (true, "2a73ca2980fb23572ff0a46f2e5e5e64e4adc5533abdaf4a7c0ee98f426d2df6"), looks := true }, kinds := [], alts := [], laidByText := true, laidKinds := [.data, .data, .data, .data, .sentinel, .sentinel, .data, .pinned], laidTests := true, laidLooks := .later }
def LayoutClonesUptoCardSaid : Prop := Claim7.holds Tryz.pinned (.plain (OpenSpec.upto layoutClonesSpec)) layoutClonesUptoCard
end Rows
end Go.Proofs.YtadaoelabimmkaaGreatDoor
