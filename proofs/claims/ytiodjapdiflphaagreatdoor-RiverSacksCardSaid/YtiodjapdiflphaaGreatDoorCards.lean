/-
  DERIVED. GIVEN WITH THE SEED: THE CARDS: each row of YtiodjapdiflphaaGreatDoorRows.lean that lists a variable, with what it lists TIED to the program's text (the seventh form; the later family's looks); each row that meets fmt, with fmt's text TOLD by the authors' own Lean function (tested against real Go, not proved from fmt's source: count such statements apart). THE CARD IS WHAT COUNTS. Prove the row's statement (the work); the ties are given (YtiodjapdiflphaaGreatDoorTie.lean); close each card by the builder's one call (the guide's Derived/Test/ToyasCard.lean, 'card_holds'). Laid BY PROGRAM, IN A SANDBOX (cutbox-door.mjs). By AI agents, Wed Nov 11 2026. No macro, syntax, notation, axiom, sorry.
-/
import Derived.Test.YtiodjapdiflphaaGreatDoorRows
import GoSem.ClaimSeven
namespace Go.Proofs.YtiodjapdiflphaaGreatDoor
namespace Rows

/-- THE TIED CARD OF 'nacrelaw08.RiverTests'. -/
def riverTestsCard : Claim7 := { stood := { row := riverTestsRow, standIns := [], harness := (true, "0dbeed3bd3aa9489bd59795517249788362f1820d4656a98ac5f70e542c11fb8"), looks := true }, kinds := [], alts := [], laidByText := true, laidKinds := [.data, .data, .data], laidTests := true, laidLooks := .later }
def RiverTestsCardSaid : Prop := Claim7.holds Tryz.pinned (.plain (OpenSpec.ofChange riverTestsSpec)) riverTestsCard

/-- THE TIED CARD OF 'nacrelaw08.RiverSacks'. -/
def riverSacksCard : Claim7 := { stood := { row := riverSacksRow, standIns := [], harness := (true, "0dbeed3bd3aa9489bd59795517249788362f1820d4656a98ac5f70e542c11fb8"), looks := true }, kinds := [], alts := [], laidByText := true, laidKinds := [.data, .data, .data], laidTests := true, laidLooks := .later }
def RiverSacksCardSaid : Prop := Claim7.holds Tryz.pinned (.plain (OpenSpec.ofChange riverSacksSpec)) riverSacksCard

/-- THE SECOND FORM's CARD OF 'nacrelaw08.RiverTests'. -/
def riverTestsUptoCard : Claim7 := { stood := { row := riverTestsUptoRow, standIns := [], harness := (true, "0dbeed3bd3aa9489bd59795517249788362f1820d4656a98ac5f70e542c11fb8"), looks := true }, kinds := [], alts := [], laidByText := true, laidKinds := [.data, .data, .data], laidTests := true, laidLooks := .later }
def RiverTestsUptoCardSaid : Prop := Claim7.holds Tryz.pinned (.plain (OpenSpec.upto riverTestsSpec)) riverTestsUptoCard

/-- THE SECOND FORM's CARD OF 'nacrelaw08.RiverSacks'. -/
def riverSacksUptoCard : Claim7 := { stood := { row := riverSacksUptoRow, standIns := [], harness := (true, "0dbeed3bd3aa9489bd59795517249788362f1820d4656a98ac5f70e542c11fb8"), looks := true }, kinds := [], alts := [], laidByText := true, laidKinds := [.data, .data, .data], laidTests := true, laidLooks := .later }
def RiverSacksUptoCardSaid : Prop := Claim7.holds Tryz.pinned (.plain (OpenSpec.upto riverSacksSpec)) riverSacksUptoCard
end Rows
end Go.Proofs.YtiodjapdiflphaaGreatDoor
