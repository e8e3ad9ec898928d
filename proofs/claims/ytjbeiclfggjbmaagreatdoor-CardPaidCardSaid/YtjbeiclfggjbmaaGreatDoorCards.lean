/-
  DERIVED. GIVEN WITH THE SEED: THE CARDS: each row of YtjbeiclfggjbmaaGreatDoorRows.lean that lists a variable, with what it lists TIED to the program's text (the seventh form; the later family's looks); each row that meets fmt, with fmt's text TOLD by the authors' own Lean function (tested against real Go, not proved from fmt's source: count such statements apart). THE CARD IS WHAT COUNTS. Prove the row's statement (the work); the ties are given (YtjbeiclfggjbmaaGreatDoorTie.lean); close each card by the builder's one call (the guide's Derived/Test/ToyasCard.lean, 'card_holds'). Laid BY PROGRAM, IN A SANDBOX (cutbox-door.mjs). By AI agents, Wed Nov 11 2026. No macro, syntax, notation, axiom, sorry.
-/
import Derived.Test.YtjbeiclfggjbmaaGreatDoorRows
import GoSem.ClaimSeven
namespace Go.Proofs.YtjbeiclfggjbmaaGreatDoor
namespace Rows

/-- THE TIED CARD OF 'nacrelaw06.CardKnowns'. -/
def cardKnownsCard : Claim7 := { stood := { row := cardKnownsRow, standIns := [], harness := (true, "e06ef2b89d9d6f1e8d19428a6cb80f5480ef87fff6fdbf8cf130b401d085e44d"), looks := true }, kinds := [], alts := [], laidByText := true, laidKinds := [.data, .data, .data], laidTests := true, laidLooks := .later }
def CardKnownsCardSaid : Prop := Claim7.holds Tryz.pinned (.plain (OpenSpec.ofChange cardKnownsSpec)) cardKnownsCard

/-- THE TIED CARD OF 'nacrelaw06.CardWrongs'. -/
def cardWrongsCard : Claim7 := { stood := { row := cardWrongsRow, standIns := [], harness := (true, "e06ef2b89d9d6f1e8d19428a6cb80f5480ef87fff6fdbf8cf130b401d085e44d"), looks := true }, kinds := [], alts := [], laidByText := true, laidKinds := [.data, .data, .data], laidTests := true, laidLooks := .later }
def CardWrongsCardSaid : Prop := Claim7.holds Tryz.pinned (.plain (OpenSpec.ofChange cardWrongsSpec)) cardWrongsCard

/-- THE TIED CARD OF 'nacrelaw06.CardDues'. -/
def cardDuesCard : Claim7 := { stood := { row := cardDuesRow, standIns := [], harness := (true, "e06ef2b89d9d6f1e8d19428a6cb80f5480ef87fff6fdbf8cf130b401d085e44d"), looks := true }, kinds := [], alts := [], laidByText := true, laidKinds := [.data, .data, .data], laidTests := true, laidLooks := .later }
def CardDuesCardSaid : Prop := Claim7.holds Tryz.pinned (.plain (OpenSpec.ofChange cardDuesSpec)) cardDuesCard

/-- THE TIED CARD OF 'nacrelaw06.CardPays'. -/
def cardPaysCard : Claim7 := { stood := { row := cardPaysRow, standIns := [], harness := (true, "e06ef2b89d9d6f1e8d19428a6cb80f5480ef87fff6fdbf8cf130b401d085e44d"), looks := true }, kinds := [], alts := [], laidByText := true, laidKinds := [.data, .data, .data], laidTests := true, laidLooks := .later }
def CardPaysCardSaid : Prop := Claim7.holds Tryz.pinned (.plain (OpenSpec.ofChange cardPaysSpec)) cardPaysCard

/-- THE TIED CARD OF 'nacrelaw06.CardPaid'. -/
def cardPaidCard : Claim7 := { stood := { row := cardPaidRow, standIns := [], harness := (true, "e06ef2b89d9d6f1e8d19428a6cb80f5480ef87fff6fdbf8cf130b401d085e44d"), looks := true }, kinds := [], alts := [], laidByText := true, laidKinds := [.data, .data, .data], laidTests := true, laidLooks := .later }
def CardPaidCardSaid : Prop := Claim7.holds Tryz.pinned (.plain (OpenSpec.ofChange cardPaidSpec)) cardPaidCard

/-- THE TIED CARD OF 'nacrelaw06.CardTours'. -/
def cardToursCard : Claim7 := { stood := { row := cardToursRow, standIns := [], harness := (true, "e06ef2b89d9d6f1e8d19428a6cb80f5480ef87fff6fdbf8cf130b401d085e44d"), looks := true }, kinds := [], alts := [], laidByText := true, laidKinds := [.data, .data, .data], laidTests := true, laidLooks := .later }
def CardToursCardSaid : Prop := Claim7.holds Tryz.pinned (.plain (OpenSpec.ofChange cardToursSpec)) cardToursCard

/-- THE TIED CARD OF 'nacrelaw06.CardShortest'. -/
def cardShortestCard : Claim7 := { stood := { row := cardShortestRow, standIns := [], harness := (true, "e06ef2b89d9d6f1e8d19428a6cb80f5480ef87fff6fdbf8cf130b401d085e44d"), looks := true }, kinds := [], alts := [], laidByText := true, laidKinds := [.data, .data, .data], laidTests := true, laidLooks := .later }
def CardShortestCardSaid : Prop := Claim7.holds Tryz.pinned (.plain (OpenSpec.ofChange cardShortestSpec)) cardShortestCard

/-- THE TIED CARD OF 'nacrelaw06.CardPlans'. -/
def cardPlansCard : Claim7 := { stood := { row := cardPlansRow, standIns := [], harness := (true, "e06ef2b89d9d6f1e8d19428a6cb80f5480ef87fff6fdbf8cf130b401d085e44d"), looks := true }, kinds := [], alts := [], laidByText := true, laidKinds := [.data, .data, .data], laidTests := true, laidLooks := .later }
def CardPlansCardSaid : Prop := Claim7.holds Tryz.pinned (.plain (OpenSpec.ofChange cardPlansSpec)) cardPlansCard

/-- THE TIED CARD OF 'nacrelaw06.CardFills'. -/
def cardFillsCard : Claim7 := { stood := { row := cardFillsRow, standIns := [], harness := (true, "e06ef2b89d9d6f1e8d19428a6cb80f5480ef87fff6fdbf8cf130b401d085e44d"), looks := true }, kinds := [], alts := [], laidByText := true, laidKinds := [.data, .data, .data], laidTests := true, laidLooks := .later }
def CardFillsCardSaid : Prop := Claim7.holds Tryz.pinned (.plain (OpenSpec.ofChange cardFillsSpec)) cardFillsCard

/-- THE TIED CARD OF 'nacrelaw06.CardFilled'. -/
def cardFilledCard : Claim7 := { stood := { row := cardFilledRow, standIns := [], harness := (true, "e06ef2b89d9d6f1e8d19428a6cb80f5480ef87fff6fdbf8cf130b401d085e44d"), looks := true }, kinds := [], alts := [], laidByText := true, laidKinds := [.data, .data, .data], laidTests := true, laidLooks := .later }
def CardFilledCardSaid : Prop := Claim7.holds Tryz.pinned (.plain (OpenSpec.ofChange cardFilledSpec)) cardFilledCard

/-- THE TIED CARD OF 'nacrelaw06.CardMore'. -/
def cardMoreCard : Claim7 := { stood := { row := cardMoreRow, standIns := [], harness := (true, "e06ef2b89d9d6f1e8d19428a6cb80f5480ef87fff6fdbf8cf130b401d085e44d"), looks := true }, kinds := [], alts := [], laidByText := true, laidKinds := [.data, .data, .data], laidTests := true, laidLooks := .later }
def CardMoreCardSaid : Prop := Claim7.holds Tryz.pinned (.plain (OpenSpec.ofChange cardMoreSpec)) cardMoreCard

/-- THE TIED CARD OF 'nacrelaw06.CardAgrees'. -/
def cardAgreesCard : Claim7 := { stood := { row := cardAgreesRow, standIns := [], harness := (true, "e06ef2b89d9d6f1e8d19428a6cb80f5480ef87fff6fdbf8cf130b401d085e44d"), looks := true }, kinds := [], alts := [], laidByText := true, laidKinds := [.data, .data, .data], laidTests := true, laidLooks := .later }
def CardAgreesCardSaid : Prop := Claim7.holds Tryz.pinned (.plain (OpenSpec.ofChange cardAgreesSpec)) cardAgreesCard

/-- THE TIED CARD OF 'nacrelaw06.CardNamed'. -/
def cardNamedCard : Claim7 := { stood := { row := cardNamedRow, standIns := [], harness := (true, "e06ef2b89d9d6f1e8d19428a6cb80f5480ef87fff6fdbf8cf130b401d085e44d"), looks := true }, kinds := [], alts := [], laidByText := true, laidKinds := [.data, .data, .data], laidTests := true, laidLooks := .later }
def CardNamedCardSaid : Prop := Claim7.holds Tryz.pinned (.plain (OpenSpec.ofChange cardNamedSpec)) cardNamedCard

/-- THE TIED CARD OF 'nacrelaw06.CardRuns'. -/
def cardRunsCard : Claim7 := { stood := { row := cardRunsRow, standIns := [], harness := (true, "e06ef2b89d9d6f1e8d19428a6cb80f5480ef87fff6fdbf8cf130b401d085e44d"), looks := true }, kinds := [], alts := [], laidByText := true, laidKinds := [.data, .data, .data], laidTests := true, laidLooks := .later }
def CardRunsCardSaid : Prop := Claim7.holds Tryz.pinned (.plain (OpenSpec.ofChange cardRunsSpec)) cardRunsCard

/-- THE TIED CARD OF 'nacrelaw06.CardKeeps'. -/
def cardKeepsCard : Claim7 := { stood := { row := cardKeepsRow, standIns := [], harness := (true, "e06ef2b89d9d6f1e8d19428a6cb80f5480ef87fff6fdbf8cf130b401d085e44d"), looks := true }, kinds := [], alts := [], laidByText := true, laidKinds := [.data, .data, .data], laidTests := true, laidLooks := .later }
def CardKeepsCardSaid : Prop := Claim7.holds Tryz.pinned (.plain (OpenSpec.ofChange cardKeepsSpec)) cardKeepsCard

/-- THE TIED CARD OF 'nacrelaw06.CardFewest'. -/
def cardFewestCard : Claim7 := { stood := { row := cardFewestRow, standIns := [], harness := (true, "e06ef2b89d9d6f1e8d19428a6cb80f5480ef87fff6fdbf8cf130b401d085e44d"), looks := true }, kinds := [], alts := [], laidByText := true, laidKinds := [.data, .data, .data], laidTests := true, laidLooks := .later }
def CardFewestCardSaid : Prop := Claim7.holds Tryz.pinned (.plain (OpenSpec.ofChange cardFewestSpec)) cardFewestCard

/-- THE TIED CARD OF 'nacrelaw06.CardTrue'. -/
def cardTrueCard : Claim7 := { stood := { row := cardTrueRow, standIns := [], harness := (true, "e06ef2b89d9d6f1e8d19428a6cb80f5480ef87fff6fdbf8cf130b401d085e44d"), looks := true }, kinds := [], alts := [], laidByText := true, laidKinds := [.data, .data, .data], laidTests := true, laidLooks := .later }
def CardTrueCardSaid : Prop := Claim7.holds Tryz.pinned (.plain (OpenSpec.ofChange cardTrueSpec)) cardTrueCard

/-- THE TIED CARD OF 'nacrelaw06.CardEnds'. -/
def cardEndsCard : Claim7 := { stood := { row := cardEndsRow, standIns := [], harness := (true, "e06ef2b89d9d6f1e8d19428a6cb80f5480ef87fff6fdbf8cf130b401d085e44d"), looks := true }, kinds := [], alts := [], laidByText := true, laidKinds := [.data, .data, .data], laidTests := true, laidLooks := .later }
def CardEndsCardSaid : Prop := Claim7.holds Tryz.pinned (.plain (OpenSpec.ofChange cardEndsSpec)) cardEndsCard

/-- THE TIED CARD OF 'nacrelaw06.CardPrints'. -/
def cardPrintsCard : Claim7 := { stood := { row := cardPrintsRow, standIns := [], harness := (true, "e06ef2b89d9d6f1e8d19428a6cb80f5480ef87fff6fdbf8cf130b401d085e44d"), looks := true }, kinds := [], alts := [], laidByText := true, laidKinds := [.data, .data, .data, .data, .pinned], laidTests := true, laidLooks := .later }
def CardPrintsCardSaid : Prop := Claim7.holds Tryz.pinned (.plain (OpenSpec.ofChange cardPrintsSpec)) cardPrintsCard

/-- THE TIED CARD OF 'nacrelaw06.CardReads'. -/
def cardReadsCard : Claim7 := { stood := { row := cardReadsRow, standIns := [], harness := (true, "e06ef2b89d9d6f1e8d19428a6cb80f5480ef87fff6fdbf8cf130b401d085e44d"), looks := true }, kinds := [], alts := [], laidByText := true, laidKinds := [.data, .data, .data, .data, .pinned], laidTests := true, laidLooks := .later }
def CardReadsCardSaid : Prop := Claim7.holds Tryz.pinned (.plain (OpenSpec.ofChange cardReadsSpec)) cardReadsCard

/-- THE TIED CARD OF 'nacrelaw06.CardSpoilt'. -/
def cardSpoiltCard : Claim7 := { stood := { row := cardSpoiltRow, standIns := [], harness := (true, "e06ef2b89d9d6f1e8d19428a6cb80f5480ef87fff6fdbf8cf130b401d085e44d"), looks := true }, kinds := [], alts := [], laidByText := true, laidKinds := [.data, .data, .data, .data, .pinned], laidTests := true, laidLooks := .later }
def CardSpoiltCardSaid : Prop := Claim7.holds Tryz.pinned (.plain (OpenSpec.ofChange cardSpoiltSpec)) cardSpoiltCard

/-- THE SECOND FORM's CARD OF 'nacrelaw06.CardKnowns'. -/
def cardKnownsUptoCard : Claim7 := { stood := { row := cardKnownsUptoRow, standIns := [], harness := (true, "e06ef2b89d9d6f1e8d19428a6cb80f5480ef87fff6fdbf8cf130b401d085e44d"), looks := true }, kinds := [], alts := [], laidByText := true, laidKinds := [.data, .data, .data], laidTests := true, laidLooks := .later }
def CardKnownsUptoCardSaid : Prop := Claim7.holds Tryz.pinned (.plain (OpenSpec.upto cardKnownsSpec)) cardKnownsUptoCard

/-- THE SECOND FORM's CARD OF 'nacrelaw06.CardWrongs'. -/
def cardWrongsUptoCard : Claim7 := { stood := { row := cardWrongsUptoRow, standIns := [], harness := (true, "e06ef2b89d9d6f1e8d19428a6cb80f5480ef87fff6fdbf8cf130b401d085e44d"), looks := true }, kinds := [], alts := [], laidByText := true, laidKinds := [.data, .data, .data], laidTests := true, laidLooks := .later }
def CardWrongsUptoCardSaid : Prop := Claim7.holds Tryz.pinned (.plain (OpenSpec.upto cardWrongsSpec)) cardWrongsUptoCard

/-- THE SECOND FORM's CARD OF 'nacrelaw06.CardDues'. -/
def cardDuesUptoCard : Claim7 := { stood := { row := cardDuesUptoRow, standIns := [], harness := (true, "e06ef2b89d9d6f1e8d19428a6cb80f5480ef87fff6fdbf8cf130b401d085e44d"), looks := true }, kinds := [], alts := [], laidByText := true, laidKinds := [.data, .data, .data], laidTests := true, laidLooks := .later }
def CardDuesUptoCardSaid : Prop := Claim7.holds Tryz.pinned (.plain (OpenSpec.upto cardDuesSpec)) cardDuesUptoCard

/-- THE SECOND FORM's CARD OF 'nacrelaw06.CardPays'. -/
def cardPaysUptoCard : Claim7 := { stood := { row := cardPaysUptoRow, standIns := [], harness := (true, "e06ef2b89d9d6f1e8d19428a6cb80f5480ef87fff6fdbf8cf130b401d085e44d"), looks := true }, kinds := [], alts := [], laidByText := true, laidKinds := [.data, .data, .data], laidTests := true, laidLooks := .later }
def CardPaysUptoCardSaid : Prop := Claim7.holds Tryz.pinned (.plain (OpenSpec.upto cardPaysSpec)) cardPaysUptoCard

/-- THE SECOND FORM's CARD OF 'nacrelaw06.CardPaid'. -/
def cardPaidUptoCard : Claim7 := { stood := { row := cardPaidUptoRow, standIns := [], harness := (true, "e06ef2b89d9d6f1e8d19428a6cb80f5480ef87fff6fdbf8cf130b401d085e44d"), looks := true }, kinds := [], alts := [], laidByText := true, laidKinds := [.data, .data, .data], laidTests := true, laidLooks := .later }
def CardPaidUptoCardSaid : Prop := Claim7.holds Tryz.pinned (.plain (OpenSpec.upto cardPaidSpec)) cardPaidUptoCard

/-- THE SECOND FORM's CARD OF 'nacrelaw06.CardTours'. -/
def cardToursUptoCard : Claim7 := { stood := { row := cardToursUptoRow, standIns := [], harness := (true, "e06ef2b89d9d6f1e8d19428a6cb80f5480ef87fff6fdbf8cf130b401d085e44d"), looks := true }, kinds := [], alts := [], laidByText := true, laidKinds := [.data, .data, .data], laidTests := true, laidLooks := .later }
def CardToursUptoCardSaid : Prop := Claim7.holds Tryz.pinned (.plain (OpenSpec.upto cardToursSpec)) cardToursUptoCard

/-- THE SECOND FORM's CARD OF 'nacrelaw06.CardShortest'. -/
def cardShortestUptoCard : Claim7 := { stood := { row := cardShortestUptoRow, standIns := [], harness := (true, "e06ef2b89d9d6f1e8d19428a6cb80f5480ef87fff6fdbf8cf130b401d085e44d"), looks := true }, kinds := [], alts := [], laidByText := true, laidKinds := [.data, .data, .data], laidTests := true, laidLooks := .later }
def CardShortestUptoCardSaid : Prop := Claim7.holds Tryz.pinned (.plain (OpenSpec.upto cardShortestSpec)) cardShortestUptoCard

/-- THE SECOND FORM's CARD OF 'nacrelaw06.CardPlans'. -/
def cardPlansUptoCard : Claim7 := { stood := { row := cardPlansUptoRow, standIns := [], harness := (true, "e06ef2b89d9d6f1e8d19428a6cb80f5480ef87fff6fdbf8cf130b401d085e44d"), looks := true }, kinds := [], alts := [], laidByText := true, laidKinds := [.data, .data, .data], laidTests := true, laidLooks := .later }
def CardPlansUptoCardSaid : Prop := Claim7.holds Tryz.pinned (.plain (OpenSpec.upto cardPlansSpec)) cardPlansUptoCard

/-- THE SECOND FORM's CARD OF 'nacrelaw06.CardFills'. -/
def cardFillsUptoCard : Claim7 := { stood := { row := cardFillsUptoRow, standIns := [], harness := (true, "e06ef2b89d9d6f1e8d19428a6cb80f5480ef87fff6fdbf8cf130b401d085e44d"), looks := true }, kinds := [], alts := [], laidByText := true, laidKinds := [.data, .data, .data], laidTests := true, laidLooks := .later }
def CardFillsUptoCardSaid : Prop := Claim7.holds Tryz.pinned (.plain (OpenSpec.upto cardFillsSpec)) cardFillsUptoCard

/-- THE SECOND FORM's CARD OF 'nacrelaw06.CardFilled'. -/
def cardFilledUptoCard : Claim7 := { stood := { row := cardFilledUptoRow, standIns := [], harness := (true, "e06ef2b89d9d6f1e8d19428a6cb80f5480ef87fff6fdbf8cf130b401d085e44d"), looks := true }, kinds := [], alts := [], laidByText := true, laidKinds := [.data, .data, .data], laidTests := true, laidLooks := .later }
def CardFilledUptoCardSaid : Prop := Claim7.holds Tryz.pinned (.plain (OpenSpec.upto cardFilledSpec)) cardFilledUptoCard

/-- THE SECOND FORM's CARD OF 'nacrelaw06.CardMore'. -/
def cardMoreUptoCard : Claim7 := { stood := { row := cardMoreUptoRow, standIns := [], harness := (true, "e06ef2b89d9d6f1e8d19428a6cb80f5480ef87fff6fdbf8cf130b401d085e44d"), looks := true }, kinds := [], alts := [], laidByText := true, laidKinds := [.data, .data, .data], laidTests := true, laidLooks := .later }
def CardMoreUptoCardSaid : Prop := Claim7.holds Tryz.pinned (.plain (OpenSpec.upto cardMoreSpec)) cardMoreUptoCard

/-- THE SECOND FORM's CARD OF 'nacrelaw06.CardAgrees'. -/
def cardAgreesUptoCard : Claim7 := { stood := { row := cardAgreesUptoRow, standIns := [], harness := (true, "e06ef2b89d9d6f1e8d19428a6cb80f5480ef87fff6fdbf8cf130b401d085e44d"), looks := true }, kinds := [], alts := [], laidByText := true, laidKinds := [.data, .data, .data], laidTests := true, laidLooks := .later }
def CardAgreesUptoCardSaid : Prop := Claim7.holds Tryz.pinned (.plain (OpenSpec.upto cardAgreesSpec)) cardAgreesUptoCard

/-- THE SECOND FORM's CARD OF 'nacrelaw06.CardNamed'. -/
def cardNamedUptoCard : Claim7 := { stood := { row := cardNamedUptoRow, standIns := [], harness := (true, "e06ef2b89d9d6f1e8d19428a6cb80f5480ef87fff6fdbf8cf130b401d085e44d"), looks := true }, kinds := [], alts := [], laidByText := true, laidKinds := [.data, .data, .data], laidTests := true, laidLooks := .later }
def CardNamedUptoCardSaid : Prop := Claim7.holds Tryz.pinned (.plain (OpenSpec.upto cardNamedSpec)) cardNamedUptoCard

/-- THE SECOND FORM's CARD OF 'nacrelaw06.CardRuns'. -/
def cardRunsUptoCard : Claim7 := { stood := { row := cardRunsUptoRow, standIns := [], harness := (true, "e06ef2b89d9d6f1e8d19428a6cb80f5480ef87fff6fdbf8cf130b401d085e44d"), looks := true }, kinds := [], alts := [], laidByText := true, laidKinds := [.data, .data, .data], laidTests := true, laidLooks := .later }
def CardRunsUptoCardSaid : Prop := Claim7.holds Tryz.pinned (.plain (OpenSpec.upto cardRunsSpec)) cardRunsUptoCard

/-- THE SECOND FORM's CARD OF 'nacrelaw06.CardKeeps'. -/
def cardKeepsUptoCard : Claim7 := { stood := { row := cardKeepsUptoRow, standIns := [], harness := (true, "e06ef2b89d9d6f1e8d19428a6cb80f5480ef87fff6fdbf8cf130b401d085e44d"), looks := true }, kinds := [], alts := [], laidByText := true, laidKinds := [.data, .data, .data], laidTests := true, laidLooks := .later }
def CardKeepsUptoCardSaid : Prop := Claim7.holds Tryz.pinned (.plain (OpenSpec.upto cardKeepsSpec)) cardKeepsUptoCard

/-- THE SECOND FORM's CARD OF 'nacrelaw06.CardFewest'. -/
def cardFewestUptoCard : Claim7 := { stood := { row := cardFewestUptoRow, standIns := [], harness := (true, "e06ef2b89d9d6f1e8d19428a6cb80f5480ef87fff6fdbf8cf130b401d085e44d"), looks := true }, kinds := [], alts := [], laidByText := true, laidKinds := [.data, .data, .data], laidTests := true, laidLooks := .later }
def CardFewestUptoCardSaid : Prop := Claim7.holds Tryz.pinned (.plain (OpenSpec.upto cardFewestSpec)) cardFewestUptoCard

/-- THE SECOND FORM's CARD OF 'nacrelaw06.CardTrue'. -/
def cardTrueUptoCard : Claim7 := { stood := { row := cardTrueUptoRow, standIns := [], harness := (true, "e06ef2b89d9d6f1e8d19428a6cb80f5480ef87fff6fdbf8cf130b401d085e44d"), looks := true }, kinds := [], alts := [], laidByText := true, laidKinds := [.data, .data, .data], laidTests := true, laidLooks := .later }
def CardTrueUptoCardSaid : Prop := Claim7.holds Tryz.pinned (.plain (OpenSpec.upto cardTrueSpec)) cardTrueUptoCard

/-- THE SECOND FORM's CARD OF 'nacrelaw06.CardEnds'. -/
def cardEndsUptoCard : Claim7 := { stood := { row := cardEndsUptoRow, standIns := [], harness := (true, "e06ef2b89d9d6f1e8d19428a6cb80f5480ef87fff6fdbf8cf130b401d085e44d"), looks := true }, kinds := [], alts := [], laidByText := true, laidKinds := [.data, .data, .data], laidTests := true, laidLooks := .later }
def CardEndsUptoCardSaid : Prop := Claim7.holds Tryz.pinned (.plain (OpenSpec.upto cardEndsSpec)) cardEndsUptoCard

/-- THE SECOND FORM's CARD OF 'nacrelaw06.CardPrints'. -/
def cardPrintsUptoCard : Claim7 := { stood := { row := cardPrintsUptoRow, standIns := [], harness := (true, "e06ef2b89d9d6f1e8d19428a6cb80f5480ef87fff6fdbf8cf130b401d085e44d"), looks := true }, kinds := [], alts := [], laidByText := true, laidKinds := [.data, .data, .data, .data, .pinned], laidTests := true, laidLooks := .later }
def CardPrintsUptoCardSaid : Prop := Claim7.holds Tryz.pinned (.plain (OpenSpec.upto cardPrintsSpec)) cardPrintsUptoCard

/-- THE SECOND FORM's CARD OF 'nacrelaw06.CardReads'. -/
def cardReadsUptoCard : Claim7 := { stood := { row := cardReadsUptoRow, standIns := [], harness := (true, "e06ef2b89d9d6f1e8d19428a6cb80f5480ef87fff6fdbf8cf130b401d085e44d"), looks := true }, kinds := [], alts := [], laidByText := true, laidKinds := [.data, .data, .data, .data, .pinned], laidTests := true, laidLooks := .later }
def CardReadsUptoCardSaid : Prop := Claim7.holds Tryz.pinned (.plain (OpenSpec.upto cardReadsSpec)) cardReadsUptoCard

/-- THE SECOND FORM's CARD OF 'nacrelaw06.CardSpoilt'. -/
def cardSpoiltUptoCard : Claim7 := { stood := { row := cardSpoiltUptoRow, standIns := [], harness := (true, "e06ef2b89d9d6f1e8d19428a6cb80f5480ef87fff6fdbf8cf130b401d085e44d"), looks := true }, kinds := [], alts := [], laidByText := true, laidKinds := [.data, .data, .data, .data, .pinned], laidTests := true, laidLooks := .later }
def CardSpoiltUptoCardSaid : Prop := Claim7.holds Tryz.pinned (.plain (OpenSpec.upto cardSpoiltSpec)) cardSpoiltUptoCard
end Rows
end Go.Proofs.YtjbeiclfggjbmaaGreatDoor
