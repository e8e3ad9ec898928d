/-
  DERIVED. GIVEN WITH THE SEED: THE CARDS: each row of YtpheidlocijdkaaGreatDoorRows.lean that lists a variable, with what it lists TIED to the program's text (the seventh form; the later family's looks); each row that meets fmt, with fmt's text TOLD by the authors' own Lean function (tested against real Go, not proved from fmt's source: count such statements apart). THE CARD IS WHAT COUNTS. Prove the row's statement (the work); the ties are given (YtpheidlocijdkaaGreatDoorTie.lean); close each card by the builder's one call (the guide's Derived/Test/ToyasCard.lean, 'card_holds'). Laid BY PROGRAM, IN A SANDBOX (cutbox-door.mjs). By AI agents, Wed Nov 11 2026. No macro, syntax, notation, axiom, sorry.
-/
import Derived.Test.YtpheidlocijdkaaGreatDoorRows
import GoSem.ClaimSeven
namespace Go.Proofs.YtpheidlocijdkaaGreatDoor
namespace Rows

/-- THE TIED CARD OF 'nacrelaw06.CardDues'. -/
def cardDuesCard : Claim7 := { stood := { row := cardDuesRow, standIns := [], harness := (true, "74c8df3aaba652646e883e3191af2c7b6381554342b2fd6c2d0e0c0cb46f55cc"), looks := true }, kinds := [], alts := [], laidByText := true, laidKinds := [.data, .data, .data], laidTests := true, laidLooks := .later }
def CardDuesCardSaid : Prop := Claim7.holds Tryz.pinned (.plain (OpenSpec.ofChange cardDuesSpec)) cardDuesCard

/-- THE TIED CARD OF 'nacrelaw06.CardTours'. -/
def cardToursCard : Claim7 := { stood := { row := cardToursRow, standIns := [], harness := (true, "74c8df3aaba652646e883e3191af2c7b6381554342b2fd6c2d0e0c0cb46f55cc"), looks := true }, kinds := [], alts := [], laidByText := true, laidKinds := [.data, .data, .data], laidTests := true, laidLooks := .later }
def CardToursCardSaid : Prop := Claim7.holds Tryz.pinned (.plain (OpenSpec.ofChange cardToursSpec)) cardToursCard

/-- THE TIED CARD OF 'nacrelaw06.CardShortest'. -/
def cardShortestCard : Claim7 := { stood := { row := cardShortestRow, standIns := [], harness := (true, "74c8df3aaba652646e883e3191af2c7b6381554342b2fd6c2d0e0c0cb46f55cc"), looks := true }, kinds := [], alts := [], laidByText := true, laidKinds := [.data, .data, .data], laidTests := true, laidLooks := .later }
def CardShortestCardSaid : Prop := Claim7.holds Tryz.pinned (.plain (OpenSpec.ofChange cardShortestSpec)) cardShortestCard

/-- THE TIED CARD OF 'nacrelaw06.CardNamed'. -/
def cardNamedCard : Claim7 := { stood := { row := cardNamedRow, standIns := [], harness := (true, "74c8df3aaba652646e883e3191af2c7b6381554342b2fd6c2d0e0c0cb46f55cc"), looks := true }, kinds := [], alts := [], laidByText := true, laidKinds := [.data, .data, .data], laidTests := true, laidLooks := .later }
def CardNamedCardSaid : Prop := Claim7.holds Tryz.pinned (.plain (OpenSpec.ofChange cardNamedSpec)) cardNamedCard

/-- THE TIED CARD OF 'nacrelaw06.CardRuns'. -/
def cardRunsCard : Claim7 := { stood := { row := cardRunsRow, standIns := [], harness := (true, "74c8df3aaba652646e883e3191af2c7b6381554342b2fd6c2d0e0c0cb46f55cc"), looks := true }, kinds := [], alts := [], laidByText := true, laidKinds := [.data, .data, .data], laidTests := true, laidLooks := .later }
def CardRunsCardSaid : Prop := Claim7.holds Tryz.pinned (.plain (OpenSpec.ofChange cardRunsSpec)) cardRunsCard

/-- THE TIED CARD OF 'nacrelaw06.CardTrue'. -/
def cardTrueCard : Claim7 := { stood := { row := cardTrueRow, standIns := [], harness := (true, "74c8df3aaba652646e883e3191af2c7b6381554342b2fd6c2d0e0c0cb46f55cc"), looks := true }, kinds := [], alts := [], laidByText := true, laidKinds := [.data, .data, .data], laidTests := true, laidLooks := .later }
def CardTrueCardSaid : Prop := Claim7.holds Tryz.pinned (.plain (OpenSpec.ofChange cardTrueSpec)) cardTrueCard

/-- THE TIED CARD OF 'nacrelaw06.CardEnds'. -/
def cardEndsCard : Claim7 := { stood := { row := cardEndsRow, standIns := [], harness := (true, "74c8df3aaba652646e883e3191af2c7b6381554342b2fd6c2d0e0c0cb46f55cc"), looks := true }, kinds := [], alts := [], laidByText := true, laidKinds := [.data, .data, .data], laidTests := true, laidLooks := .later }
def CardEndsCardSaid : Prop := Claim7.holds Tryz.pinned (.plain (OpenSpec.ofChange cardEndsSpec)) cardEndsCard

/-- THE SECOND FORM's CARD OF 'nacrelaw06.CardDues'. -/
def cardDuesUptoCard : Claim7 := { stood := { row := cardDuesUptoRow, standIns := [], harness := (true, "74c8df3aaba652646e883e3191af2c7b6381554342b2fd6c2d0e0c0cb46f55cc"), looks := true }, kinds := [], alts := [], laidByText := true, laidKinds := [.data, .data, .data], laidTests := true, laidLooks := .later }
def CardDuesUptoCardSaid : Prop := Claim7.holds Tryz.pinned (.plain (OpenSpec.upto cardDuesSpec)) cardDuesUptoCard

/-- THE SECOND FORM's CARD OF 'nacrelaw06.CardTours'. -/
def cardToursUptoCard : Claim7 := { stood := { row := cardToursUptoRow, standIns := [], harness := (true, "74c8df3aaba652646e883e3191af2c7b6381554342b2fd6c2d0e0c0cb46f55cc"), looks := true }, kinds := [], alts := [], laidByText := true, laidKinds := [.data, .data, .data], laidTests := true, laidLooks := .later }
def CardToursUptoCardSaid : Prop := Claim7.holds Tryz.pinned (.plain (OpenSpec.upto cardToursSpec)) cardToursUptoCard

/-- THE SECOND FORM's CARD OF 'nacrelaw06.CardShortest'. -/
def cardShortestUptoCard : Claim7 := { stood := { row := cardShortestUptoRow, standIns := [], harness := (true, "74c8df3aaba652646e883e3191af2c7b6381554342b2fd6c2d0e0c0cb46f55cc"), looks := true }, kinds := [], alts := [], laidByText := true, laidKinds := [.data, .data, .data], laidTests := true, laidLooks := .later }
def CardShortestUptoCardSaid : Prop := Claim7.holds Tryz.pinned (.plain (OpenSpec.upto cardShortestSpec)) cardShortestUptoCard

/-- THE SECOND FORM's CARD OF 'nacrelaw06.CardNamed'. -/
def cardNamedUptoCard : Claim7 := { stood := { row := cardNamedUptoRow, standIns := [], harness := (true, "74c8df3aaba652646e883e3191af2c7b6381554342b2fd6c2d0e0c0cb46f55cc"), looks := true }, kinds := [], alts := [], laidByText := true, laidKinds := [.data, .data, .data], laidTests := true, laidLooks := .later }
def CardNamedUptoCardSaid : Prop := Claim7.holds Tryz.pinned (.plain (OpenSpec.upto cardNamedSpec)) cardNamedUptoCard

/-- THE SECOND FORM's CARD OF 'nacrelaw06.CardRuns'. -/
def cardRunsUptoCard : Claim7 := { stood := { row := cardRunsUptoRow, standIns := [], harness := (true, "74c8df3aaba652646e883e3191af2c7b6381554342b2fd6c2d0e0c0cb46f55cc"), looks := true }, kinds := [], alts := [], laidByText := true, laidKinds := [.data, .data, .data], laidTests := true, laidLooks := .later }
def CardRunsUptoCardSaid : Prop := Claim7.holds Tryz.pinned (.plain (OpenSpec.upto cardRunsSpec)) cardRunsUptoCard

/-- THE SECOND FORM's CARD OF 'nacrelaw06.CardTrue'. -/
def cardTrueUptoCard : Claim7 := { stood := { row := cardTrueUptoRow, standIns := [], harness := (true, "74c8df3aaba652646e883e3191af2c7b6381554342b2fd6c2d0e0c0cb46f55cc"), looks := true }, kinds := [], alts := [], laidByText := true, laidKinds := [.data, .data, .data], laidTests := true, laidLooks := .later }
def CardTrueUptoCardSaid : Prop := Claim7.holds Tryz.pinned (.plain (OpenSpec.upto cardTrueSpec)) cardTrueUptoCard

/-- THE SECOND FORM's CARD OF 'nacrelaw06.CardEnds'. -/
def cardEndsUptoCard : Claim7 := { stood := { row := cardEndsUptoRow, standIns := [], harness := (true, "74c8df3aaba652646e883e3191af2c7b6381554342b2fd6c2d0e0c0cb46f55cc"), looks := true }, kinds := [], alts := [], laidByText := true, laidKinds := [.data, .data, .data], laidTests := true, laidLooks := .later }
def CardEndsUptoCardSaid : Prop := Claim7.holds Tryz.pinned (.plain (OpenSpec.upto cardEndsSpec)) cardEndsUptoCard
end Rows
end Go.Proofs.YtpheidlocijdkaaGreatDoor
