/-
  DERIVED. GIVEN WITH THE SEED: THE CARDS: each row of YtdmdabhdcpjkiaaGreatDoorRows.lean that lists a variable, with what it lists TIED to the program's text (the seventh form; the later family's looks); each row that meets fmt, with fmt's text TOLD by the authors' own Lean function (tested against real Go, not proved from fmt's source: count such statements apart). THE CARD IS WHAT COUNTS. Prove the row's statement (the work); the ties are given (YtdmdabhdcpjkiaaGreatDoorTie.lean); close each card by the builder's one call (the guide's Derived/Test/ToyasCard.lean, 'card_holds'). Laid BY PROGRAM, IN A SANDBOX (cutbox-door.mjs). By AI agents, Wed Nov 11 2026. No macro, syntax, notation, axiom, sorry.
-/
import Derived.Test.YtdmdabhdcpjkiaaGreatDoorRows
import GoSem.ClaimSeven
namespace Go.Proofs.YtdmdabhdcpjkiaaGreatDoor
namespace Rows

/-- THE TIED CARD OF 'nacrelaw08.RiverTests'. -/
def riverTestsCard : Claim7 := { stood := { row := riverTestsRow, standIns := [], harness := (true, "01b7b7554244c8b545186261cbf0a247bd8f35a7d56639e19327bba4a453c1c9"), looks := true }, kinds := [], alts := [], laidByText := true, laidKinds := [.data, .data, .data], laidTests := true, laidLooks := .later }
def RiverTestsCardSaid : Prop := Claim7.holds Tryz.pinned (.plain (OpenSpec.ofChange riverTestsSpec)) riverTestsCard

/-- THE TIED CARD OF 'nacrelaw08.RiverSacks'. -/
def riverSacksCard : Claim7 := { stood := { row := riverSacksRow, standIns := [], harness := (true, "01b7b7554244c8b545186261cbf0a247bd8f35a7d56639e19327bba4a453c1c9"), looks := true }, kinds := [], alts := [], laidByText := true, laidKinds := [.data, .data, .data], laidTests := true, laidLooks := .later }
def RiverSacksCardSaid : Prop := Claim7.holds Tryz.pinned (.plain (OpenSpec.ofChange riverSacksSpec)) riverSacksCard

/-- THE TIED CARD OF 'nacrelaw08.RiverPrints'. -/
def riverPrintsCard : Claim7 := { stood := { row := riverPrintsRow, standIns := [], harness := (true, "01b7b7554244c8b545186261cbf0a247bd8f35a7d56639e19327bba4a453c1c9"), looks := true }, kinds := [], alts := [], laidByText := true, laidKinds := [.data, .data, .data, .data, .pinned], laidTests := true, laidLooks := .later }
def RiverPrintsCardSaid : Prop := Claim7.holds Tryz.pinned (.plain (OpenSpec.ofChange riverPrintsSpec)) riverPrintsCard

/-- THE TIED CARD OF 'nacrelaw08.RiverReads'. -/
def riverReadsCard : Claim7 := { stood := { row := riverReadsRow, standIns := [], harness := (true, "01b7b7554244c8b545186261cbf0a247bd8f35a7d56639e19327bba4a453c1c9"), looks := true }, kinds := [], alts := [], laidByText := true, laidKinds := [.data, .data, .data, .data, .pinned], laidTests := true, laidLooks := .later }
def RiverReadsCardSaid : Prop := Claim7.holds Tryz.pinned (.plain (OpenSpec.ofChange riverReadsSpec)) riverReadsCard

/-- THE TIED CARD OF 'nacrelaw08.RiverSpoilt'. -/
def riverSpoiltCard : Claim7 := { stood := { row := riverSpoiltRow, standIns := [], harness := (true, "01b7b7554244c8b545186261cbf0a247bd8f35a7d56639e19327bba4a453c1c9"), looks := true }, kinds := [], alts := [], laidByText := true, laidKinds := [.data, .data, .data, .data, .pinned], laidTests := true, laidLooks := .later }
def RiverSpoiltCardSaid : Prop := Claim7.holds Tryz.pinned (.plain (OpenSpec.ofChange riverSpoiltSpec)) riverSpoiltCard

/-- THE SECOND FORM's CARD OF 'nacrelaw08.RiverTests'. -/
def riverTestsUptoCard : Claim7 := { stood := { row := riverTestsUptoRow, standIns := [], harness := (true, "01b7b7554244c8b545186261cbf0a247bd8f35a7d56639e19327bba4a453c1c9"), looks := true }, kinds := [], alts := [], laidByText := true, laidKinds := [.data, .data, .data], laidTests := true, laidLooks := .later }
def RiverTestsUptoCardSaid : Prop := Claim7.holds Tryz.pinned (.plain (OpenSpec.upto riverTestsSpec)) riverTestsUptoCard

/-- THE SECOND FORM's CARD OF 'nacrelaw08.RiverSacks'. -/
def riverSacksUptoCard : Claim7 := { stood := { row := riverSacksUptoRow, standIns := [], harness := (true, "01b7b7554244c8b545186261cbf0a247bd8f35a7d56639e19327bba4a453c1c9"), looks := true }, kinds := [], alts := [], laidByText := true, laidKinds := [.data, .data, .data], laidTests := true, laidLooks := .later }
def RiverSacksUptoCardSaid : Prop := Claim7.holds Tryz.pinned (.plain (OpenSpec.upto riverSacksSpec)) riverSacksUptoCard

/-- THE SECOND FORM's CARD OF 'nacrelaw08.RiverPrints'. -/
def riverPrintsUptoCard : Claim7 := { stood := { row := riverPrintsUptoRow, standIns := [], harness := (true, "01b7b7554244c8b545186261cbf0a247bd8f35a7d56639e19327bba4a453c1c9"), looks := true }, kinds := [], alts := [], laidByText := true, laidKinds := [.data, .data, .data, .data, .pinned], laidTests := true, laidLooks := .later }
def RiverPrintsUptoCardSaid : Prop := Claim7.holds Tryz.pinned (.plain (OpenSpec.upto riverPrintsSpec)) riverPrintsUptoCard

/-- THE SECOND FORM's CARD OF 'nacrelaw08.RiverReads'. -/
def riverReadsUptoCard : Claim7 := { stood := { row := riverReadsUptoRow, standIns := [], harness := (true, "01b7b7554244c8b545186261cbf0a247bd8f35a7d56639e19327bba4a453c1c9"), looks := true }, kinds := [], alts := [], laidByText := true, laidKinds := [.data, .data, .data, .data, .pinned], laidTests := true, laidLooks := .later }
def RiverReadsUptoCardSaid : Prop := Claim7.holds Tryz.pinned (.plain (OpenSpec.upto riverReadsSpec)) riverReadsUptoCard

/-- THE SECOND FORM's CARD OF 'nacrelaw08.RiverSpoilt'. -/
def riverSpoiltUptoCard : Claim7 := { stood := { row := riverSpoiltUptoRow, standIns := [], harness := (true, "01b7b7554244c8b545186261cbf0a247bd8f35a7d56639e19327bba4a453c1c9"), looks := true }, kinds := [], alts := [], laidByText := true, laidKinds := [.data, .data, .data, .data, .pinned], laidTests := true, laidLooks := .later }
def RiverSpoiltUptoCardSaid : Prop := Claim7.holds Tryz.pinned (.plain (OpenSpec.upto riverSpoiltSpec)) riverSpoiltUptoCard
end Rows
end Go.Proofs.YtdmdabhdcpjkiaaGreatDoor
