/-
  DERIVED. GIVEN WITH THE SEED: THE CARDS: each row of YtapkbonlijhmjaaGreatDoorRows.lean that lists a variable, with what it lists TIED to the program's text (the seventh form; the later family's looks); each row that meets fmt, with fmt's text TOLD by the authors' own Lean function (tested against real Go, not proved from fmt's source: count such statements apart). THE CARD IS WHAT COUNTS. Prove the row's statement (the work); the ties are given (YtapkbonlijhmjaaGreatDoorTie.lean); close each card by the builder's one call (the guide's Derived/Test/ToyasCard.lean, 'card_holds'). Laid BY PROGRAM, IN A SANDBOX (cutbox-door.mjs). By AI agents, Wed Nov 11 2026. No macro, syntax, notation, axiom, sorry.
-/
import Derived.Test.YtapkbonlijhmjaaGreatDoorRows
import GoSem.ClaimSeven
namespace Go.Proofs.YtapkbonlijhmjaaGreatDoor
namespace Rows

/-- THE TIED CARD OF 'nacrelaw06.CardPlans'. -/
def cardPlansCard : Claim7 := { stood := { row := cardPlansRow, standIns := [], harness := (true, "3c3c44757a0003bc406b632dd645643815aed8346ee432d389db504bc05e0156"), looks := true }, kinds := [], alts := [], laidByText := true, laidKinds := [.data, .data, .data], laidTests := true, laidLooks := .later }
def CardPlansCardSaid : Prop := Claim7.holds Tryz.pinned (.plain (OpenSpec.ofChange cardPlansSpec)) cardPlansCard

/-- THE TIED CARD OF 'nacrelaw06.CardMore'. -/
def cardMoreCard : Claim7 := { stood := { row := cardMoreRow, standIns := [], harness := (true, "3c3c44757a0003bc406b632dd645643815aed8346ee432d389db504bc05e0156"), looks := true }, kinds := [], alts := [], laidByText := true, laidKinds := [.data, .data, .data], laidTests := true, laidLooks := .later }
def CardMoreCardSaid : Prop := Claim7.holds Tryz.pinned (.plain (OpenSpec.ofChange cardMoreSpec)) cardMoreCard

/-- THE TIED CARD OF 'nacrelaw06.CardKeeps'. -/
def cardKeepsCard : Claim7 := { stood := { row := cardKeepsRow, standIns := [], harness := (true, "3c3c44757a0003bc406b632dd645643815aed8346ee432d389db504bc05e0156"), looks := true }, kinds := [], alts := [], laidByText := true, laidKinds := [.data, .data, .data], laidTests := true, laidLooks := .later }
def CardKeepsCardSaid : Prop := Claim7.holds Tryz.pinned (.plain (OpenSpec.ofChange cardKeepsSpec)) cardKeepsCard

/-- THE TIED CARD OF 'nacrelaw06.CardFewest'. -/
def cardFewestCard : Claim7 := { stood := { row := cardFewestRow, standIns := [], harness := (true, "3c3c44757a0003bc406b632dd645643815aed8346ee432d389db504bc05e0156"), looks := true }, kinds := [], alts := [], laidByText := true, laidKinds := [.data, .data, .data], laidTests := true, laidLooks := .later }
def CardFewestCardSaid : Prop := Claim7.holds Tryz.pinned (.plain (OpenSpec.ofChange cardFewestSpec)) cardFewestCard

/-- THE TIED CARD OF 'nacrelaw06.CardEnds'. -/
def cardEndsCard : Claim7 := { stood := { row := cardEndsRow, standIns := [], harness := (true, "3c3c44757a0003bc406b632dd645643815aed8346ee432d389db504bc05e0156"), looks := true }, kinds := [], alts := [], laidByText := true, laidKinds := [.data, .data, .data], laidTests := true, laidLooks := .later }
def CardEndsCardSaid : Prop := Claim7.holds Tryz.pinned (.plain (OpenSpec.ofChange cardEndsSpec)) cardEndsCard

/-- THE TIED CARD OF 'nacrelaw06.CardPrints'. -/
def cardPrintsCard : Claim7 := { stood := { row := cardPrintsRow, standIns := [], harness := (true, "3c3c44757a0003bc406b632dd645643815aed8346ee432d389db504bc05e0156"), looks := true }, kinds := [], alts := [], laidByText := true, laidKinds := [.data, .data, .data, .data, .pinned], laidTests := true, laidLooks := .later }
def CardPrintsCardSaid : Prop := Claim7.holds Tryz.pinned (.plain (OpenSpec.ofChange cardPrintsSpec)) cardPrintsCard

/-- THE TIED CARD OF 'nacrelaw06.CardReads'. -/
def cardReadsCard : Claim7 := { stood := { row := cardReadsRow, standIns := [], harness := (true, "3c3c44757a0003bc406b632dd645643815aed8346ee432d389db504bc05e0156"), looks := true }, kinds := [], alts := [], laidByText := true, laidKinds := [.data, .data, .data, .data, .pinned], laidTests := true, laidLooks := .later }
def CardReadsCardSaid : Prop := Claim7.holds Tryz.pinned (.plain (OpenSpec.ofChange cardReadsSpec)) cardReadsCard

/-- THE TIED CARD OF 'nacrelaw06.CardSpoilt'. -/
def cardSpoiltCard : Claim7 := { stood := { row := cardSpoiltRow, standIns := [], harness := (true, "3c3c44757a0003bc406b632dd645643815aed8346ee432d389db504bc05e0156"), looks := true }, kinds := [], alts := [], laidByText := true, laidKinds := [.data, .data, .data, .data, .pinned], laidTests := true, laidLooks := .later }
def CardSpoiltCardSaid : Prop := Claim7.holds Tryz.pinned (.plain (OpenSpec.ofChange cardSpoiltSpec)) cardSpoiltCard

/-- THE SECOND FORM's CARD OF 'nacrelaw06.CardPlans'. -/
def cardPlansUptoCard : Claim7 := { stood := { row := cardPlansUptoRow, standIns := [], harness := (true, "3c3c44757a0003bc406b632dd645643815aed8346ee432d389db504bc05e0156"), looks := true }, kinds := [], alts := [], laidByText := true, laidKinds := [.data, .data, .data], laidTests := true, laidLooks := .later }
def CardPlansUptoCardSaid : Prop := Claim7.holds Tryz.pinned (.plain (OpenSpec.upto cardPlansSpec)) cardPlansUptoCard

/-- THE SECOND FORM's CARD OF 'nacrelaw06.CardMore'. -/
def cardMoreUptoCard : Claim7 := { stood := { row := cardMoreUptoRow, standIns := [], harness := (true, "3c3c44757a0003bc406b632dd645643815aed8346ee432d389db504bc05e0156"), looks := true }, kinds := [], alts := [], laidByText := true, laidKinds := [.data, .data, .data], laidTests := true, laidLooks := .later }
def CardMoreUptoCardSaid : Prop := Claim7.holds Tryz.pinned (.plain (OpenSpec.upto cardMoreSpec)) cardMoreUptoCard

/-- THE SECOND FORM's CARD OF 'nacrelaw06.CardKeeps'. -/
def cardKeepsUptoCard : Claim7 := { stood := { row := cardKeepsUptoRow, standIns := [], harness := (true, "3c3c44757a0003bc406b632dd645643815aed8346ee432d389db504bc05e0156"), looks := true }, kinds := [], alts := [], laidByText := true, laidKinds := [.data, .data, .data], laidTests := true, laidLooks := .later }
def CardKeepsUptoCardSaid : Prop := Claim7.holds Tryz.pinned (.plain (OpenSpec.upto cardKeepsSpec)) cardKeepsUptoCard

/-- THE SECOND FORM's CARD OF 'nacrelaw06.CardFewest'. -/
def cardFewestUptoCard : Claim7 := { stood := { row := cardFewestUptoRow, standIns := [], harness := (true, "3c3c44757a0003bc406b632dd645643815aed8346ee432d389db504bc05e0156"), looks := true }, kinds := [], alts := [], laidByText := true, laidKinds := [.data, .data, .data], laidTests := true, laidLooks := .later }
def CardFewestUptoCardSaid : Prop := Claim7.holds Tryz.pinned (.plain (OpenSpec.upto cardFewestSpec)) cardFewestUptoCard

/-- THE SECOND FORM's CARD OF 'nacrelaw06.CardEnds'. -/
def cardEndsUptoCard : Claim7 := { stood := { row := cardEndsUptoRow, standIns := [], harness := (true, "3c3c44757a0003bc406b632dd645643815aed8346ee432d389db504bc05e0156"), looks := true }, kinds := [], alts := [], laidByText := true, laidKinds := [.data, .data, .data], laidTests := true, laidLooks := .later }
def CardEndsUptoCardSaid : Prop := Claim7.holds Tryz.pinned (.plain (OpenSpec.upto cardEndsSpec)) cardEndsUptoCard

/-- THE SECOND FORM's CARD OF 'nacrelaw06.CardPrints'. -/
def cardPrintsUptoCard : Claim7 := { stood := { row := cardPrintsUptoRow, standIns := [], harness := (true, "3c3c44757a0003bc406b632dd645643815aed8346ee432d389db504bc05e0156"), looks := true }, kinds := [], alts := [], laidByText := true, laidKinds := [.data, .data, .data, .data, .pinned], laidTests := true, laidLooks := .later }
def CardPrintsUptoCardSaid : Prop := Claim7.holds Tryz.pinned (.plain (OpenSpec.upto cardPrintsSpec)) cardPrintsUptoCard

/-- THE SECOND FORM's CARD OF 'nacrelaw06.CardReads'. -/
def cardReadsUptoCard : Claim7 := { stood := { row := cardReadsUptoRow, standIns := [], harness := (true, "3c3c44757a0003bc406b632dd645643815aed8346ee432d389db504bc05e0156"), looks := true }, kinds := [], alts := [], laidByText := true, laidKinds := [.data, .data, .data, .data, .pinned], laidTests := true, laidLooks := .later }
def CardReadsUptoCardSaid : Prop := Claim7.holds Tryz.pinned (.plain (OpenSpec.upto cardReadsSpec)) cardReadsUptoCard

/-- THE SECOND FORM's CARD OF 'nacrelaw06.CardSpoilt'. -/
def cardSpoiltUptoCard : Claim7 := { stood := { row := cardSpoiltUptoRow, standIns := [], harness := (true, "3c3c44757a0003bc406b632dd645643815aed8346ee432d389db504bc05e0156"), looks := true }, kinds := [], alts := [], laidByText := true, laidKinds := [.data, .data, .data, .data, .pinned], laidTests := true, laidLooks := .later }
def CardSpoiltUptoCardSaid : Prop := Claim7.holds Tryz.pinned (.plain (OpenSpec.upto cardSpoiltSpec)) cardSpoiltUptoCard
end Rows
end Go.Proofs.YtapkbonlijhmjaaGreatDoor
