/-
  DERIVED. GIVEN WITH THE SEED: THE CARDS: each row of YtbeophjdiddomaaGreatDoorRows.lean that lists a variable, with what it lists TIED to the program's text (the seventh form; the later family's looks); each row that meets fmt, with fmt's text TOLD by the authors' own Lean function (tested against real Go, not proved from fmt's source: count such statements apart). THE CARD IS WHAT COUNTS. Prove the row's statement (the work); the ties are given (YtbeophjdiddomaaGreatDoorTie.lean); close each card by the builder's one call (the guide's Derived/Test/ToyasCard.lean, 'card_holds'). Laid BY PROGRAM, IN A SANDBOX (cutbox-door.mjs). By AI agents, Wed Nov 11 2026. No macro, syntax, notation, axiom, sorry.
-/
import Derived.Test.YtbeophjdiddomaaGreatDoorRows
import GoSem.ClaimSeven
namespace Go.Proofs.YtbeophjdiddomaaGreatDoor
namespace Rows

/-- THE TIED CARD OF 'nacrelaw06.CardEnds'. -/
def cardEndsCard : Claim7 := { stood := { row := cardEndsRow, standIns := [], harness := (true, "c3061b693812d162feaca8034c8895f77f96586a182f705037da53ef4dcfd7ef"), looks := true }, kinds := [], alts := [], laidByText := true, laidKinds := [.data, .data, .data], laidTests := true, laidLooks := .later }
def CardEndsCardSaid : Prop := Claim7.holds Tryz.pinned (.plain (OpenSpec.ofChange cardEndsSpec)) cardEndsCard

/-- THE TIED CARD OF 'nacrelaw06.CardPrints'. -/
def cardPrintsCard : Claim7 := { stood := { row := cardPrintsRow, standIns := [], harness := (true, "c3061b693812d162feaca8034c8895f77f96586a182f705037da53ef4dcfd7ef"), looks := true }, kinds := [], alts := [], laidByText := true, laidKinds := [.data, .data, .data, .data, .pinned], laidTests := true, laidLooks := .later }
def CardPrintsCardSaid : Prop := Claim7.holds Tryz.pinned (.plain (OpenSpec.ofChange cardPrintsSpec)) cardPrintsCard

/-- THE TIED CARD OF 'nacrelaw06.CardReads'. -/
def cardReadsCard : Claim7 := { stood := { row := cardReadsRow, standIns := [], harness := (true, "c3061b693812d162feaca8034c8895f77f96586a182f705037da53ef4dcfd7ef"), looks := true }, kinds := [], alts := [], laidByText := true, laidKinds := [.data, .data, .data, .data, .pinned], laidTests := true, laidLooks := .later }
def CardReadsCardSaid : Prop := Claim7.holds Tryz.pinned (.plain (OpenSpec.ofChange cardReadsSpec)) cardReadsCard

/-- THE TIED CARD OF 'nacrelaw06.CardSpoilt'. -/
def cardSpoiltCard : Claim7 := { stood := { row := cardSpoiltRow, standIns := [], harness := (true, "c3061b693812d162feaca8034c8895f77f96586a182f705037da53ef4dcfd7ef"), looks := true }, kinds := [], alts := [], laidByText := true, laidKinds := [.data, .data, .data, .data, .pinned], laidTests := true, laidLooks := .later }
def CardSpoiltCardSaid : Prop := Claim7.holds Tryz.pinned (.plain (OpenSpec.ofChange cardSpoiltSpec)) cardSpoiltCard

/-- THE SECOND FORM's CARD OF 'nacrelaw06.CardEnds'. -/
def cardEndsUptoCard : Claim7 := { stood := { row := cardEndsUptoRow, standIns := [], harness := (true, "c3061b693812d162feaca8034c8895f77f96586a182f705037da53ef4dcfd7ef"), looks := true }, kinds := [], alts := [], laidByText := true, laidKinds := [.data, .data, .data], laidTests := true, laidLooks := .later }
def CardEndsUptoCardSaid : Prop := Claim7.holds Tryz.pinned (.plain (OpenSpec.upto cardEndsSpec)) cardEndsUptoCard

/-- THE SECOND FORM's CARD OF 'nacrelaw06.CardPrints'. -/
def cardPrintsUptoCard : Claim7 := { stood := { row := cardPrintsUptoRow, standIns := [], harness := (true, "c3061b693812d162feaca8034c8895f77f96586a182f705037da53ef4dcfd7ef"), looks := true }, kinds := [], alts := [], laidByText := true, laidKinds := [.data, .data, .data, .data, .pinned], laidTests := true, laidLooks := .later }
def CardPrintsUptoCardSaid : Prop := Claim7.holds Tryz.pinned (.plain (OpenSpec.upto cardPrintsSpec)) cardPrintsUptoCard

/-- THE SECOND FORM's CARD OF 'nacrelaw06.CardReads'. -/
def cardReadsUptoCard : Claim7 := { stood := { row := cardReadsUptoRow, standIns := [], harness := (true, "c3061b693812d162feaca8034c8895f77f96586a182f705037da53ef4dcfd7ef"), looks := true }, kinds := [], alts := [], laidByText := true, laidKinds := [.data, .data, .data, .data, .pinned], laidTests := true, laidLooks := .later }
def CardReadsUptoCardSaid : Prop := Claim7.holds Tryz.pinned (.plain (OpenSpec.upto cardReadsSpec)) cardReadsUptoCard

/-- THE SECOND FORM's CARD OF 'nacrelaw06.CardSpoilt'. -/
def cardSpoiltUptoCard : Claim7 := { stood := { row := cardSpoiltUptoRow, standIns := [], harness := (true, "c3061b693812d162feaca8034c8895f77f96586a182f705037da53ef4dcfd7ef"), looks := true }, kinds := [], alts := [], laidByText := true, laidKinds := [.data, .data, .data, .data, .pinned], laidTests := true, laidLooks := .later }
def CardSpoiltUptoCardSaid : Prop := Claim7.holds Tryz.pinned (.plain (OpenSpec.upto cardSpoiltSpec)) cardSpoiltUptoCard
end Rows
end Go.Proofs.YtbeophjdiddomaaGreatDoor
