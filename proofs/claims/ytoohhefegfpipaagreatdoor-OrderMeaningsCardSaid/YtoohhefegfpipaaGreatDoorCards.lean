/-
  DERIVED. GIVEN WITH THE SEED: THE CARDS: each row of YtoohhefegfpipaaGreatDoorRows.lean that lists a variable, with what it lists TIED to the program's text (the seventh form; the later family's looks); each row that meets fmt, with fmt's text TOLD by the authors' own Lean function (tested against real Go, not proved from fmt's source: count such statements apart). THE CARD IS WHAT COUNTS. Prove the row's statement (the work); the ties are given (YtoohhefegfpipaaGreatDoorTie.lean); close each card by the builder's one call (the guide's Derived/Test/ToyasCard.lean, 'card_holds'). Laid BY PROGRAM, IN A SANDBOX (cutbox-door.mjs). By AI agents, Wed Nov 11 2026. No macro, syntax, notation, axiom, sorry.
-/
import Derived.Test.YtoohhefegfpipaaGreatDoorRows
import GoSem.ClaimSeven
namespace Go.Proofs.YtoohhefegfpipaaGreatDoor
namespace Rows

/-- THE TIED CARD OF 'nacrelaw09.OrderTruths'. -/
def orderTruthsCard : Claim7 := { stood := { row := orderTruthsRow, standIns := [], harness := (true, "d98a8539915f95ef2b2c5207e43abf72100fae1c0cb84909036bba1526f17be6"), looks := true }, kinds := [], alts := [], laidByText := true, laidKinds := [.data, .data, .data, .data, .pinned], laidTests := true, laidLooks := .later }
def OrderTruthsCardSaid : Prop := Claim7.holds Tryz.pinned (.plain (OpenSpec.ofChange orderTruthsSpec)) orderTruthsCard

/-- THE TIED CARD OF 'nacrelaw09.OrderMeanings'. -/
def orderMeaningsCard : Claim7 := { stood := { row := orderMeaningsRow, standIns := [], harness := (true, "d98a8539915f95ef2b2c5207e43abf72100fae1c0cb84909036bba1526f17be6"), looks := true }, kinds := [], alts := [], laidByText := true, laidKinds := [.data, .data, .data, .data, .pinned], laidTests := true, laidLooks := .later }
def OrderMeaningsCardSaid : Prop := Claim7.holds Tryz.pinned (.plain (OpenSpec.ofChange orderMeaningsSpec)) orderMeaningsCard

/-- THE TIED CARD OF 'nacrelaw09.OrderLetters'. -/
def orderLettersCard : Claim7 := { stood := { row := orderLettersRow, standIns := [], harness := (true, "d98a8539915f95ef2b2c5207e43abf72100fae1c0cb84909036bba1526f17be6"), looks := true }, kinds := [], alts := [], laidByText := true, laidKinds := [.data, .data, .data, .data, .pinned], laidTests := true, laidLooks := .later }
def OrderLettersCardSaid : Prop := Claim7.holds Tryz.pinned (.plain (OpenSpec.ofChange orderLettersSpec)) orderLettersCard

/-- THE TIED CARD OF 'nacrelaw09.OrderLies'. -/
def orderLiesCard : Claim7 := { stood := { row := orderLiesRow, standIns := [], harness := (true, "d98a8539915f95ef2b2c5207e43abf72100fae1c0cb84909036bba1526f17be6"), looks := true }, kinds := [], alts := [], laidByText := true, laidKinds := [.data, .data, .data, .data, .pinned], laidTests := true, laidLooks := .later }
def OrderLiesCardSaid : Prop := Claim7.holds Tryz.pinned (.plain (OpenSpec.ofChange orderLiesSpec)) orderLiesCard

/-- THE TIED CARD OF 'nacrelaw09.OrderPrints'. -/
def orderPrintsCard : Claim7 := { stood := { row := orderPrintsRow, standIns := [], harness := (true, "d98a8539915f95ef2b2c5207e43abf72100fae1c0cb84909036bba1526f17be6"), looks := true }, kinds := [], alts := [], laidByText := true, laidKinds := [.data, .data, .data, .data, .pinned], laidTests := true, laidLooks := .later }
def OrderPrintsCardSaid : Prop := Claim7.holds Tryz.pinned (.plain (OpenSpec.ofChange orderPrintsSpec)) orderPrintsCard

/-- THE TIED CARD OF 'nacrelaw09.OrderTexts'. -/
def orderTextsCard : Claim7 := { stood := { row := orderTextsRow, standIns := [], harness := (true, "d98a8539915f95ef2b2c5207e43abf72100fae1c0cb84909036bba1526f17be6"), looks := true }, kinds := [], alts := [], laidByText := true, laidKinds := [.data, .data, .data, .data, .pinned], laidTests := true, laidLooks := .later }
def OrderTextsCardSaid : Prop := Claim7.holds Tryz.pinned (.plain (OpenSpec.ofChange orderTextsSpec)) orderTextsCard

/-- THE TIED CARD OF 'nacrelaw09.OrderSpoilt'. -/
def orderSpoiltCard : Claim7 := { stood := { row := orderSpoiltRow, standIns := [], harness := (true, "d98a8539915f95ef2b2c5207e43abf72100fae1c0cb84909036bba1526f17be6"), looks := true }, kinds := [], alts := [], laidByText := true, laidKinds := [.data, .data, .data, .data, .pinned], laidTests := true, laidLooks := .later }
def OrderSpoiltCardSaid : Prop := Claim7.holds Tryz.pinned (.plain (OpenSpec.ofChange orderSpoiltSpec)) orderSpoiltCard

/-- THE SECOND FORM's CARD OF 'nacrelaw09.OrderTruths'. -/
def orderTruthsUptoCard : Claim7 := { stood := { row := orderTruthsUptoRow, standIns := [], harness := (true, "d98a8539915f95ef2b2c5207e43abf72100fae1c0cb84909036bba1526f17be6"), looks := true }, kinds := [], alts := [], laidByText := true, laidKinds := [.data, .data, .data, .data, .pinned], laidTests := true, laidLooks := .later }
def OrderTruthsUptoCardSaid : Prop := Claim7.holds Tryz.pinned (.plain (OpenSpec.upto orderTruthsSpec)) orderTruthsUptoCard

/-- THE SECOND FORM's CARD OF 'nacrelaw09.OrderMeanings'. -/
def orderMeaningsUptoCard : Claim7 := { stood := { row := orderMeaningsUptoRow, standIns := [], harness := (true, "d98a8539915f95ef2b2c5207e43abf72100fae1c0cb84909036bba1526f17be6"), looks := true }, kinds := [], alts := [], laidByText := true, laidKinds := [.data, .data, .data, .data, .pinned], laidTests := true, laidLooks := .later }
def OrderMeaningsUptoCardSaid : Prop := Claim7.holds Tryz.pinned (.plain (OpenSpec.upto orderMeaningsSpec)) orderMeaningsUptoCard

/-- THE SECOND FORM's CARD OF 'nacrelaw09.OrderLetters'. -/
def orderLettersUptoCard : Claim7 := { stood := { row := orderLettersUptoRow, standIns := [], harness := (true, "d98a8539915f95ef2b2c5207e43abf72100fae1c0cb84909036bba1526f17be6"), looks := true }, kinds := [], alts := [], laidByText := true, laidKinds := [.data, .data, .data, .data, .pinned], laidTests := true, laidLooks := .later }
def OrderLettersUptoCardSaid : Prop := Claim7.holds Tryz.pinned (.plain (OpenSpec.upto orderLettersSpec)) orderLettersUptoCard

/-- THE SECOND FORM's CARD OF 'nacrelaw09.OrderLies'. -/
def orderLiesUptoCard : Claim7 := { stood := { row := orderLiesUptoRow, standIns := [], harness := (true, "d98a8539915f95ef2b2c5207e43abf72100fae1c0cb84909036bba1526f17be6"), looks := true }, kinds := [], alts := [], laidByText := true, laidKinds := [.data, .data, .data, .data, .pinned], laidTests := true, laidLooks := .later }
def OrderLiesUptoCardSaid : Prop := Claim7.holds Tryz.pinned (.plain (OpenSpec.upto orderLiesSpec)) orderLiesUptoCard

/-- THE SECOND FORM's CARD OF 'nacrelaw09.OrderPrints'. -/
def orderPrintsUptoCard : Claim7 := { stood := { row := orderPrintsUptoRow, standIns := [], harness := (true, "d98a8539915f95ef2b2c5207e43abf72100fae1c0cb84909036bba1526f17be6"), looks := true }, kinds := [], alts := [], laidByText := true, laidKinds := [.data, .data, .data, .data, .pinned], laidTests := true, laidLooks := .later }
def OrderPrintsUptoCardSaid : Prop := Claim7.holds Tryz.pinned (.plain (OpenSpec.upto orderPrintsSpec)) orderPrintsUptoCard

/-- THE SECOND FORM's CARD OF 'nacrelaw09.OrderTexts'. -/
def orderTextsUptoCard : Claim7 := { stood := { row := orderTextsUptoRow, standIns := [], harness := (true, "d98a8539915f95ef2b2c5207e43abf72100fae1c0cb84909036bba1526f17be6"), looks := true }, kinds := [], alts := [], laidByText := true, laidKinds := [.data, .data, .data, .data, .pinned], laidTests := true, laidLooks := .later }
def OrderTextsUptoCardSaid : Prop := Claim7.holds Tryz.pinned (.plain (OpenSpec.upto orderTextsSpec)) orderTextsUptoCard

/-- THE SECOND FORM's CARD OF 'nacrelaw09.OrderSpoilt'. -/
def orderSpoiltUptoCard : Claim7 := { stood := { row := orderSpoiltUptoRow, standIns := [], harness := (true, "d98a8539915f95ef2b2c5207e43abf72100fae1c0cb84909036bba1526f17be6"), looks := true }, kinds := [], alts := [], laidByText := true, laidKinds := [.data, .data, .data, .data, .pinned], laidTests := true, laidLooks := .later }
def OrderSpoiltUptoCardSaid : Prop := Claim7.holds Tryz.pinned (.plain (OpenSpec.upto orderSpoiltSpec)) orderSpoiltUptoCard
end Rows
end Go.Proofs.YtoohhefegfpipaaGreatDoor
