/-
  DERIVED. GIVEN WITH THE SEED: THE CARDS: each row of YtpebafaigldldaaGreatDoorRows.lean that lists a variable, with what it lists TIED to the program's text (the seventh form; the later family's looks); each row that meets fmt, with fmt's text TOLD by the authors' own Lean function (tested against real Go, not proved from fmt's source: count such statements apart). THE CARD IS WHAT COUNTS. Prove the row's statement (the work); the ties are given (YtpebafaigldldaaGreatDoorTie.lean); close each card by the builder's one call (the guide's Derived/Test/ToyasCard.lean, 'card_holds'). Laid BY PROGRAM, IN A SANDBOX (cutbox-door.mjs). By AI agents, Wed Nov 11 2026. No macro, syntax, notation, axiom, sorry.
-/
import Derived.Test.YtpebafaigldldaaGreatDoorRows
import GoSem.ClaimSeven
namespace Go.Proofs.YtpebafaigldldaaGreatDoor
namespace Rows

/-- THE TIED CARD OF 'nacrelaw09.OrderTruths'. -/
def orderTruthsCard : Claim7 := { stood := { row := orderTruthsRow, standIns := [], harness := (true, "9d3b120312c45343d1864fd3c328be9693411649d68ed0414aee2ef7e91ac6ee"), looks := true }, kinds := [], alts := [], laidByText := true, laidKinds := [.data, .data, .data, .data, .pinned], laidTests := true, laidLooks := .later }
def OrderTruthsCardSaid : Prop := Claim7.holds Tryz.pinned (.plain (OpenSpec.ofChange orderTruthsSpec)) orderTruthsCard

/-- THE TIED CARD OF 'nacrelaw09.OrderAsked'. -/
def orderAskedCard : Claim7 := { stood := { row := orderAskedRow, standIns := [], harness := (true, "9d3b120312c45343d1864fd3c328be9693411649d68ed0414aee2ef7e91ac6ee"), looks := true }, kinds := [], alts := [], laidByText := true, laidKinds := [.data, .data, .data, .data, .pinned], laidTests := true, laidLooks := .later }
def OrderAskedCardSaid : Prop := Claim7.holds Tryz.pinned (.plain (OpenSpec.ofChange orderAskedSpec)) orderAskedCard

/-- THE TIED CARD OF 'nacrelaw09.OrderPacks'. -/
def orderPacksCard : Claim7 := { stood := { row := orderPacksRow, standIns := [], harness := (true, "9d3b120312c45343d1864fd3c328be9693411649d68ed0414aee2ef7e91ac6ee"), looks := true }, kinds := [], alts := [], laidByText := true, laidKinds := [.data, .data, .data, .data, .pinned], laidTests := true, laidLooks := .later }
def OrderPacksCardSaid : Prop := Claim7.holds Tryz.pinned (.plain (OpenSpec.ofChange orderPacksSpec)) orderPacksCard

/-- THE TIED CARD OF 'nacrelaw09.OrderCheaper'. -/
def orderCheaperCard : Claim7 := { stood := { row := orderCheaperRow, standIns := [], harness := (true, "9d3b120312c45343d1864fd3c328be9693411649d68ed0414aee2ef7e91ac6ee"), looks := true }, kinds := [], alts := [], laidByText := true, laidKinds := [.data, .data, .data, .data, .pinned], laidTests := true, laidLooks := .later }
def OrderCheaperCardSaid : Prop := Claim7.holds Tryz.pinned (.plain (OpenSpec.ofChange orderCheaperSpec)) orderCheaperCard

/-- THE TIED CARD OF 'nacrelaw09.OrderBuys'. -/
def orderBuysCard : Claim7 := { stood := { row := orderBuysRow, standIns := [], harness := (true, "9d3b120312c45343d1864fd3c328be9693411649d68ed0414aee2ef7e91ac6ee"), looks := true }, kinds := [], alts := [], laidByText := true, laidKinds := [.data, .data, .data, .data, .pinned], laidTests := true, laidLooks := .later }
def OrderBuysCardSaid : Prop := Claim7.holds Tryz.pinned (.plain (OpenSpec.ofChange orderBuysSpec)) orderBuysCard

/-- THE TIED CARD OF 'nacrelaw09.OrderMore'. -/
def orderMoreCard : Claim7 := { stood := { row := orderMoreRow, standIns := [], harness := (true, "9d3b120312c45343d1864fd3c328be9693411649d68ed0414aee2ef7e91ac6ee"), looks := true }, kinds := [], alts := [], laidByText := true, laidKinds := [.data, .data, .data, .data, .pinned], laidTests := true, laidLooks := .later }
def OrderMoreCardSaid : Prop := Claim7.holds Tryz.pinned (.plain (OpenSpec.ofChange orderMoreSpec)) orderMoreCard

/-- THE TIED CARD OF 'nacrelaw09.OrderStocks'. -/
def orderStocksCard : Claim7 := { stood := { row := orderStocksRow, standIns := [], harness := (true, "9d3b120312c45343d1864fd3c328be9693411649d68ed0414aee2ef7e91ac6ee"), looks := true }, kinds := [], alts := [], laidByText := true, laidKinds := [.data, .data, .data, .data, .pinned], laidTests := true, laidLooks := .later }
def OrderStocksCardSaid : Prop := Claim7.holds Tryz.pinned (.plain (OpenSpec.ofChange orderStocksSpec)) orderStocksCard

/-- THE TIED CARD OF 'nacrelaw09.OrderCosts'. -/
def orderCostsCard : Claim7 := { stood := { row := orderCostsRow, standIns := [], harness := (true, "9d3b120312c45343d1864fd3c328be9693411649d68ed0414aee2ef7e91ac6ee"), looks := true }, kinds := [], alts := [], laidByText := true, laidKinds := [.data, .data, .data, .data, .pinned], laidTests := true, laidLooks := .later }
def OrderCostsCardSaid : Prop := Claim7.holds Tryz.pinned (.plain (OpenSpec.ofChange orderCostsSpec)) orderCostsCard

/-- THE TIED CARD OF 'nacrelaw09.OrderRivals'. -/
def orderRivalsCard : Claim7 := { stood := { row := orderRivalsRow, standIns := [], harness := (true, "9d3b120312c45343d1864fd3c328be9693411649d68ed0414aee2ef7e91ac6ee"), looks := true }, kinds := [], alts := [], laidByText := true, laidKinds := [.data, .data, .data, .data, .pinned], laidTests := true, laidLooks := .later }
def OrderRivalsCardSaid : Prop := Claim7.holds Tryz.pinned (.plain (OpenSpec.ofChange orderRivalsSpec)) orderRivalsCard

/-- THE TIED CARD OF 'nacrelaw09.OrderTrue'. -/
def orderTrueCard : Claim7 := { stood := { row := orderTrueRow, standIns := [], harness := (true, "9d3b120312c45343d1864fd3c328be9693411649d68ed0414aee2ef7e91ac6ee"), looks := true }, kinds := [], alts := [], laidByText := true, laidKinds := [.data, .data, .data, .data, .pinned], laidTests := true, laidLooks := .later }
def OrderTrueCardSaid : Prop := Claim7.holds Tryz.pinned (.plain (OpenSpec.ofChange orderTrueSpec)) orderTrueCard

/-- THE TIED CARD OF 'nacrelaw09.OrderMeanings'. -/
def orderMeaningsCard : Claim7 := { stood := { row := orderMeaningsRow, standIns := [], harness := (true, "9d3b120312c45343d1864fd3c328be9693411649d68ed0414aee2ef7e91ac6ee"), looks := true }, kinds := [], alts := [], laidByText := true, laidKinds := [.data, .data, .data, .data, .pinned], laidTests := true, laidLooks := .later }
def OrderMeaningsCardSaid : Prop := Claim7.holds Tryz.pinned (.plain (OpenSpec.ofChange orderMeaningsSpec)) orderMeaningsCard

/-- THE SECOND FORM's CARD OF 'nacrelaw09.OrderTruths'. -/
def orderTruthsUptoCard : Claim7 := { stood := { row := orderTruthsUptoRow, standIns := [], harness := (true, "9d3b120312c45343d1864fd3c328be9693411649d68ed0414aee2ef7e91ac6ee"), looks := true }, kinds := [], alts := [], laidByText := true, laidKinds := [.data, .data, .data, .data, .pinned], laidTests := true, laidLooks := .later }
def OrderTruthsUptoCardSaid : Prop := Claim7.holds Tryz.pinned (.plain (OpenSpec.upto orderTruthsSpec)) orderTruthsUptoCard

/-- THE SECOND FORM's CARD OF 'nacrelaw09.OrderAsked'. -/
def orderAskedUptoCard : Claim7 := { stood := { row := orderAskedUptoRow, standIns := [], harness := (true, "9d3b120312c45343d1864fd3c328be9693411649d68ed0414aee2ef7e91ac6ee"), looks := true }, kinds := [], alts := [], laidByText := true, laidKinds := [.data, .data, .data, .data, .pinned], laidTests := true, laidLooks := .later }
def OrderAskedUptoCardSaid : Prop := Claim7.holds Tryz.pinned (.plain (OpenSpec.upto orderAskedSpec)) orderAskedUptoCard

/-- THE SECOND FORM's CARD OF 'nacrelaw09.OrderPacks'. -/
def orderPacksUptoCard : Claim7 := { stood := { row := orderPacksUptoRow, standIns := [], harness := (true, "9d3b120312c45343d1864fd3c328be9693411649d68ed0414aee2ef7e91ac6ee"), looks := true }, kinds := [], alts := [], laidByText := true, laidKinds := [.data, .data, .data, .data, .pinned], laidTests := true, laidLooks := .later }
def OrderPacksUptoCardSaid : Prop := Claim7.holds Tryz.pinned (.plain (OpenSpec.upto orderPacksSpec)) orderPacksUptoCard

/-- THE SECOND FORM's CARD OF 'nacrelaw09.OrderCheaper'. -/
def orderCheaperUptoCard : Claim7 := { stood := { row := orderCheaperUptoRow, standIns := [], harness := (true, "9d3b120312c45343d1864fd3c328be9693411649d68ed0414aee2ef7e91ac6ee"), looks := true }, kinds := [], alts := [], laidByText := true, laidKinds := [.data, .data, .data, .data, .pinned], laidTests := true, laidLooks := .later }
def OrderCheaperUptoCardSaid : Prop := Claim7.holds Tryz.pinned (.plain (OpenSpec.upto orderCheaperSpec)) orderCheaperUptoCard

/-- THE SECOND FORM's CARD OF 'nacrelaw09.OrderBuys'. -/
def orderBuysUptoCard : Claim7 := { stood := { row := orderBuysUptoRow, standIns := [], harness := (true, "9d3b120312c45343d1864fd3c328be9693411649d68ed0414aee2ef7e91ac6ee"), looks := true }, kinds := [], alts := [], laidByText := true, laidKinds := [.data, .data, .data, .data, .pinned], laidTests := true, laidLooks := .later }
def OrderBuysUptoCardSaid : Prop := Claim7.holds Tryz.pinned (.plain (OpenSpec.upto orderBuysSpec)) orderBuysUptoCard

/-- THE SECOND FORM's CARD OF 'nacrelaw09.OrderMore'. -/
def orderMoreUptoCard : Claim7 := { stood := { row := orderMoreUptoRow, standIns := [], harness := (true, "9d3b120312c45343d1864fd3c328be9693411649d68ed0414aee2ef7e91ac6ee"), looks := true }, kinds := [], alts := [], laidByText := true, laidKinds := [.data, .data, .data, .data, .pinned], laidTests := true, laidLooks := .later }
def OrderMoreUptoCardSaid : Prop := Claim7.holds Tryz.pinned (.plain (OpenSpec.upto orderMoreSpec)) orderMoreUptoCard

/-- THE SECOND FORM's CARD OF 'nacrelaw09.OrderStocks'. -/
def orderStocksUptoCard : Claim7 := { stood := { row := orderStocksUptoRow, standIns := [], harness := (true, "9d3b120312c45343d1864fd3c328be9693411649d68ed0414aee2ef7e91ac6ee"), looks := true }, kinds := [], alts := [], laidByText := true, laidKinds := [.data, .data, .data, .data, .pinned], laidTests := true, laidLooks := .later }
def OrderStocksUptoCardSaid : Prop := Claim7.holds Tryz.pinned (.plain (OpenSpec.upto orderStocksSpec)) orderStocksUptoCard

/-- THE SECOND FORM's CARD OF 'nacrelaw09.OrderCosts'. -/
def orderCostsUptoCard : Claim7 := { stood := { row := orderCostsUptoRow, standIns := [], harness := (true, "9d3b120312c45343d1864fd3c328be9693411649d68ed0414aee2ef7e91ac6ee"), looks := true }, kinds := [], alts := [], laidByText := true, laidKinds := [.data, .data, .data, .data, .pinned], laidTests := true, laidLooks := .later }
def OrderCostsUptoCardSaid : Prop := Claim7.holds Tryz.pinned (.plain (OpenSpec.upto orderCostsSpec)) orderCostsUptoCard

/-- THE SECOND FORM's CARD OF 'nacrelaw09.OrderRivals'. -/
def orderRivalsUptoCard : Claim7 := { stood := { row := orderRivalsUptoRow, standIns := [], harness := (true, "9d3b120312c45343d1864fd3c328be9693411649d68ed0414aee2ef7e91ac6ee"), looks := true }, kinds := [], alts := [], laidByText := true, laidKinds := [.data, .data, .data, .data, .pinned], laidTests := true, laidLooks := .later }
def OrderRivalsUptoCardSaid : Prop := Claim7.holds Tryz.pinned (.plain (OpenSpec.upto orderRivalsSpec)) orderRivalsUptoCard

/-- THE SECOND FORM's CARD OF 'nacrelaw09.OrderTrue'. -/
def orderTrueUptoCard : Claim7 := { stood := { row := orderTrueUptoRow, standIns := [], harness := (true, "9d3b120312c45343d1864fd3c328be9693411649d68ed0414aee2ef7e91ac6ee"), looks := true }, kinds := [], alts := [], laidByText := true, laidKinds := [.data, .data, .data, .data, .pinned], laidTests := true, laidLooks := .later }
def OrderTrueUptoCardSaid : Prop := Claim7.holds Tryz.pinned (.plain (OpenSpec.upto orderTrueSpec)) orderTrueUptoCard

/-- THE SECOND FORM's CARD OF 'nacrelaw09.OrderMeanings'. -/
def orderMeaningsUptoCard : Claim7 := { stood := { row := orderMeaningsUptoRow, standIns := [], harness := (true, "9d3b120312c45343d1864fd3c328be9693411649d68ed0414aee2ef7e91ac6ee"), looks := true }, kinds := [], alts := [], laidByText := true, laidKinds := [.data, .data, .data, .data, .pinned], laidTests := true, laidLooks := .later }
def OrderMeaningsUptoCardSaid : Prop := Claim7.holds Tryz.pinned (.plain (OpenSpec.upto orderMeaningsSpec)) orderMeaningsUptoCard
end Rows
end Go.Proofs.YtpebafaigldldaaGreatDoor
