/-
  DERIVED. GIVEN WITH THE SEED: THE CARDS: each row of YtokananogogjaaaGreatDoorRows.lean that lists a variable, with what it lists TIED to the program's text (the seventh form; the later family's looks); each row that meets fmt, with fmt's text TOLD by the authors' own Lean function (tested against real Go, not proved from fmt's source: count such statements apart). THE CARD IS WHAT COUNTS. Prove the row's statement (the work); the ties are given (YtokananogogjaaaGreatDoorTie.lean); close each card by the builder's one call (the guide's Derived/Test/ToyasCard.lean, 'card_holds'). Laid BY PROGRAM, IN A SANDBOX (cutbox-door.mjs). By AI agents, Wed Nov 11 2026. No macro, syntax, notation, axiom, sorry.
-/
import Derived.Test.YtokananogogjaaaGreatDoorRows
import GoSem.ClaimSeven
namespace Go.Proofs.YtokananogogjaaaGreatDoor
namespace Rows

/-- THE TIED CARD OF 'nacrelaw09.OrderLetters'. -/
def orderLettersCard : Claim7 := { stood := { row := orderLettersRow, standIns := [], harness := (true, "02f41e563dd56e1fd077fe4f504adc238e29f5eae4a9be7902d8649ecac6cca5"), looks := true }, kinds := [], alts := [], laidByText := true, laidKinds := [.data, .data, .data, .data, .pinned], laidTests := true, laidLooks := .later }
def OrderLettersCardSaid : Prop := Claim7.holds Tryz.pinned (.plain (OpenSpec.ofChange orderLettersSpec)) orderLettersCard

/-- THE TIED CARD OF 'nacrelaw09.OrderLies'. -/
def orderLiesCard : Claim7 := { stood := { row := orderLiesRow, standIns := [], harness := (true, "02f41e563dd56e1fd077fe4f504adc238e29f5eae4a9be7902d8649ecac6cca5"), looks := true }, kinds := [], alts := [], laidByText := true, laidKinds := [.data, .data, .data, .data, .pinned], laidTests := true, laidLooks := .later }
def OrderLiesCardSaid : Prop := Claim7.holds Tryz.pinned (.plain (OpenSpec.ofChange orderLiesSpec)) orderLiesCard

/-- THE SECOND FORM's CARD OF 'nacrelaw09.OrderLetters'. -/
def orderLettersUptoCard : Claim7 := { stood := { row := orderLettersUptoRow, standIns := [], harness := (true, "02f41e563dd56e1fd077fe4f504adc238e29f5eae4a9be7902d8649ecac6cca5"), looks := true }, kinds := [], alts := [], laidByText := true, laidKinds := [.data, .data, .data, .data, .pinned], laidTests := true, laidLooks := .later }
def OrderLettersUptoCardSaid : Prop := Claim7.holds Tryz.pinned (.plain (OpenSpec.upto orderLettersSpec)) orderLettersUptoCard

/-- THE SECOND FORM's CARD OF 'nacrelaw09.OrderLies'. -/
def orderLiesUptoCard : Claim7 := { stood := { row := orderLiesUptoRow, standIns := [], harness := (true, "02f41e563dd56e1fd077fe4f504adc238e29f5eae4a9be7902d8649ecac6cca5"), looks := true }, kinds := [], alts := [], laidByText := true, laidKinds := [.data, .data, .data, .data, .pinned], laidTests := true, laidLooks := .later }
def OrderLiesUptoCardSaid : Prop := Claim7.holds Tryz.pinned (.plain (OpenSpec.upto orderLiesSpec)) orderLiesUptoCard
end Rows
end Go.Proofs.YtokananogogjaaaGreatDoor
