/-
  DERIVED. GIVEN WITH THE SEED: THE CARDS: each row of YtnhpibnneidmgaaGreatDoorRows.lean that lists a variable, with what it lists TIED to the program's text (the seventh form; the later family's looks); each row that meets fmt, with fmt's text TOLD by the authors' own Lean function (tested against real Go, not proved from fmt's source: count such statements apart). THE CARD IS WHAT COUNTS. Prove the row's statement (the work); the ties are given (YtnhpibnneidmgaaGreatDoorTie.lean); close each card by the builder's one call (the guide's Derived/Test/ToyasCard.lean, 'card_holds'). Laid BY PROGRAM, IN A SANDBOX (cutbox-door.mjs). By AI agents, Wed Nov 11 2026. No macro, syntax, notation, axiom, sorry.
-/
import Derived.Test.YtnhpibnneidmgaaGreatDoorRows
import GoSem.ClaimSeven
namespace Go.Proofs.YtnhpibnneidmgaaGreatDoor
namespace Rows

/-- THE TIED CARD OF 'nacrelaw08.RiverMore'. -/
def riverMoreCard : Claim7 := { stood := { row := riverMoreRow, standIns := [], harness := (true, "47b2becb3fbfa99078a780265f798d39ff3149afee72b53b8f9109bcbd3d0fd0"), looks := true }, kinds := [], alts := [], laidByText := true, laidKinds := [.data, .data, .data], laidTests := true, laidLooks := .later }
def RiverMoreCardSaid : Prop := Claim7.holds Tryz.pinned (.plain (OpenSpec.ofChange riverMoreSpec)) riverMoreCard

/-- THE TIED CARD OF 'nacrelaw08.RiverTests'. -/
def riverTestsCard : Claim7 := { stood := { row := riverTestsRow, standIns := [], harness := (true, "47b2becb3fbfa99078a780265f798d39ff3149afee72b53b8f9109bcbd3d0fd0"), looks := true }, kinds := [], alts := [], laidByText := true, laidKinds := [.data, .data, .data], laidTests := true, laidLooks := .later }
def RiverTestsCardSaid : Prop := Claim7.holds Tryz.pinned (.plain (OpenSpec.ofChange riverTestsSpec)) riverTestsCard

/-- THE TIED CARD OF 'nacrelaw08.RiverCoulds'. -/
def riverCouldsCard : Claim7 := { stood := { row := riverCouldsRow, standIns := [], harness := (true, "47b2becb3fbfa99078a780265f798d39ff3149afee72b53b8f9109bcbd3d0fd0"), looks := true }, kinds := [], alts := [], laidByText := true, laidKinds := [.data, .data, .data], laidTests := true, laidLooks := .later }
def RiverCouldsCardSaid : Prop := Claim7.holds Tryz.pinned (.plain (OpenSpec.ofChange riverCouldsSpec)) riverCouldsCard

/-- THE TIED CARD OF 'nacrelaw08.RiverSacks'. -/
def riverSacksCard : Claim7 := { stood := { row := riverSacksRow, standIns := [], harness := (true, "47b2becb3fbfa99078a780265f798d39ff3149afee72b53b8f9109bcbd3d0fd0"), looks := true }, kinds := [], alts := [], laidByText := true, laidKinds := [.data, .data, .data], laidTests := true, laidLooks := .later }
def RiverSacksCardSaid : Prop := Claim7.holds Tryz.pinned (.plain (OpenSpec.ofChange riverSacksSpec)) riverSacksCard

/-- THE TIED CARD OF 'nacrelaw08.RiverRuns'. -/
def riverRunsCard : Claim7 := { stood := { row := riverRunsRow, standIns := [], harness := (true, "47b2becb3fbfa99078a780265f798d39ff3149afee72b53b8f9109bcbd3d0fd0"), looks := true }, kinds := [], alts := [], laidByText := true, laidKinds := [.data, .data, .data], laidTests := true, laidLooks := .later }
def RiverRunsCardSaid : Prop := Claim7.holds Tryz.pinned (.plain (OpenSpec.ofChange riverRunsSpec)) riverRunsCard

/-- THE TIED CARD OF 'nacrelaw08.RiverTested'. -/
def riverTestedCard : Claim7 := { stood := { row := riverTestedRow, standIns := [], harness := (true, "47b2becb3fbfa99078a780265f798d39ff3149afee72b53b8f9109bcbd3d0fd0"), looks := true }, kinds := [], alts := [], laidByText := true, laidKinds := [.data, .data, .data], laidTests := true, laidLooks := .later }
def RiverTestedCardSaid : Prop := Claim7.holds Tryz.pinned (.plain (OpenSpec.ofChange riverTestedSpec)) riverTestedCard

/-- THE TIED CARD OF 'nacrelaw08.RiverTrue'. -/
def riverTrueCard : Claim7 := { stood := { row := riverTrueRow, standIns := [], harness := (true, "47b2becb3fbfa99078a780265f798d39ff3149afee72b53b8f9109bcbd3d0fd0"), looks := true }, kinds := [], alts := [], laidByText := true, laidKinds := [.data, .data, .data], laidTests := true, laidLooks := .later }
def RiverTrueCardSaid : Prop := Claim7.holds Tryz.pinned (.plain (OpenSpec.ofChange riverTrueSpec)) riverTrueCard

/-- THE TIED CARD OF 'nacrelaw08.RiverPrints'. -/
def riverPrintsCard : Claim7 := { stood := { row := riverPrintsRow, standIns := [], harness := (true, "47b2becb3fbfa99078a780265f798d39ff3149afee72b53b8f9109bcbd3d0fd0"), looks := true }, kinds := [], alts := [], laidByText := true, laidKinds := [.data, .data, .data, .data, .pinned], laidTests := true, laidLooks := .later }
def RiverPrintsCardSaid : Prop := Claim7.holds Tryz.pinned (.plain (OpenSpec.ofChange riverPrintsSpec)) riverPrintsCard

/-- THE TIED CARD OF 'nacrelaw08.RiverReads'. -/
def riverReadsCard : Claim7 := { stood := { row := riverReadsRow, standIns := [], harness := (true, "47b2becb3fbfa99078a780265f798d39ff3149afee72b53b8f9109bcbd3d0fd0"), looks := true }, kinds := [], alts := [], laidByText := true, laidKinds := [.data, .data, .data, .data, .pinned], laidTests := true, laidLooks := .later }
def RiverReadsCardSaid : Prop := Claim7.holds Tryz.pinned (.plain (OpenSpec.ofChange riverReadsSpec)) riverReadsCard

/-- THE TIED CARD OF 'nacrelaw08.RiverSpoilt'. -/
def riverSpoiltCard : Claim7 := { stood := { row := riverSpoiltRow, standIns := [], harness := (true, "47b2becb3fbfa99078a780265f798d39ff3149afee72b53b8f9109bcbd3d0fd0"), looks := true }, kinds := [], alts := [], laidByText := true, laidKinds := [.data, .data, .data, .data, .pinned], laidTests := true, laidLooks := .later }
def RiverSpoiltCardSaid : Prop := Claim7.holds Tryz.pinned (.plain (OpenSpec.ofChange riverSpoiltSpec)) riverSpoiltCard

/-- THE SECOND FORM's CARD OF 'nacrelaw08.RiverMore'. -/
def riverMoreUptoCard : Claim7 := { stood := { row := riverMoreUptoRow, standIns := [], harness := (true, "47b2becb3fbfa99078a780265f798d39ff3149afee72b53b8f9109bcbd3d0fd0"), looks := true }, kinds := [], alts := [], laidByText := true, laidKinds := [.data, .data, .data], laidTests := true, laidLooks := .later }
def RiverMoreUptoCardSaid : Prop := Claim7.holds Tryz.pinned (.plain (OpenSpec.upto riverMoreSpec)) riverMoreUptoCard

/-- THE SECOND FORM's CARD OF 'nacrelaw08.RiverTests'. -/
def riverTestsUptoCard : Claim7 := { stood := { row := riverTestsUptoRow, standIns := [], harness := (true, "47b2becb3fbfa99078a780265f798d39ff3149afee72b53b8f9109bcbd3d0fd0"), looks := true }, kinds := [], alts := [], laidByText := true, laidKinds := [.data, .data, .data], laidTests := true, laidLooks := .later }
def RiverTestsUptoCardSaid : Prop := Claim7.holds Tryz.pinned (.plain (OpenSpec.upto riverTestsSpec)) riverTestsUptoCard

/-- THE SECOND FORM's CARD OF 'nacrelaw08.RiverCoulds'. -/
def riverCouldsUptoCard : Claim7 := { stood := { row := riverCouldsUptoRow, standIns := [], harness := (true, "47b2becb3fbfa99078a780265f798d39ff3149afee72b53b8f9109bcbd3d0fd0"), looks := true }, kinds := [], alts := [], laidByText := true, laidKinds := [.data, .data, .data], laidTests := true, laidLooks := .later }
def RiverCouldsUptoCardSaid : Prop := Claim7.holds Tryz.pinned (.plain (OpenSpec.upto riverCouldsSpec)) riverCouldsUptoCard

/-- THE SECOND FORM's CARD OF 'nacrelaw08.RiverSacks'. -/
def riverSacksUptoCard : Claim7 := { stood := { row := riverSacksUptoRow, standIns := [], harness := (true, "47b2becb3fbfa99078a780265f798d39ff3149afee72b53b8f9109bcbd3d0fd0"), looks := true }, kinds := [], alts := [], laidByText := true, laidKinds := [.data, .data, .data], laidTests := true, laidLooks := .later }
def RiverSacksUptoCardSaid : Prop := Claim7.holds Tryz.pinned (.plain (OpenSpec.upto riverSacksSpec)) riverSacksUptoCard

/-- THE SECOND FORM's CARD OF 'nacrelaw08.RiverRuns'. -/
def riverRunsUptoCard : Claim7 := { stood := { row := riverRunsUptoRow, standIns := [], harness := (true, "47b2becb3fbfa99078a780265f798d39ff3149afee72b53b8f9109bcbd3d0fd0"), looks := true }, kinds := [], alts := [], laidByText := true, laidKinds := [.data, .data, .data], laidTests := true, laidLooks := .later }
def RiverRunsUptoCardSaid : Prop := Claim7.holds Tryz.pinned (.plain (OpenSpec.upto riverRunsSpec)) riverRunsUptoCard

/-- THE SECOND FORM's CARD OF 'nacrelaw08.RiverTested'. -/
def riverTestedUptoCard : Claim7 := { stood := { row := riverTestedUptoRow, standIns := [], harness := (true, "47b2becb3fbfa99078a780265f798d39ff3149afee72b53b8f9109bcbd3d0fd0"), looks := true }, kinds := [], alts := [], laidByText := true, laidKinds := [.data, .data, .data], laidTests := true, laidLooks := .later }
def RiverTestedUptoCardSaid : Prop := Claim7.holds Tryz.pinned (.plain (OpenSpec.upto riverTestedSpec)) riverTestedUptoCard

/-- THE SECOND FORM's CARD OF 'nacrelaw08.RiverTrue'. -/
def riverTrueUptoCard : Claim7 := { stood := { row := riverTrueUptoRow, standIns := [], harness := (true, "47b2becb3fbfa99078a780265f798d39ff3149afee72b53b8f9109bcbd3d0fd0"), looks := true }, kinds := [], alts := [], laidByText := true, laidKinds := [.data, .data, .data], laidTests := true, laidLooks := .later }
def RiverTrueUptoCardSaid : Prop := Claim7.holds Tryz.pinned (.plain (OpenSpec.upto riverTrueSpec)) riverTrueUptoCard

/-- THE SECOND FORM's CARD OF 'nacrelaw08.RiverPrints'. -/
def riverPrintsUptoCard : Claim7 := { stood := { row := riverPrintsUptoRow, standIns := [], harness := (true, "47b2becb3fbfa99078a780265f798d39ff3149afee72b53b8f9109bcbd3d0fd0"), looks := true }, kinds := [], alts := [], laidByText := true, laidKinds := [.data, .data, .data, .data, .pinned], laidTests := true, laidLooks := .later }
def RiverPrintsUptoCardSaid : Prop := Claim7.holds Tryz.pinned (.plain (OpenSpec.upto riverPrintsSpec)) riverPrintsUptoCard

/-- THE SECOND FORM's CARD OF 'nacrelaw08.RiverReads'. -/
def riverReadsUptoCard : Claim7 := { stood := { row := riverReadsUptoRow, standIns := [], harness := (true, "47b2becb3fbfa99078a780265f798d39ff3149afee72b53b8f9109bcbd3d0fd0"), looks := true }, kinds := [], alts := [], laidByText := true, laidKinds := [.data, .data, .data, .data, .pinned], laidTests := true, laidLooks := .later }
def RiverReadsUptoCardSaid : Prop := Claim7.holds Tryz.pinned (.plain (OpenSpec.upto riverReadsSpec)) riverReadsUptoCard

/-- THE SECOND FORM's CARD OF 'nacrelaw08.RiverSpoilt'. -/
def riverSpoiltUptoCard : Claim7 := { stood := { row := riverSpoiltUptoRow, standIns := [], harness := (true, "47b2becb3fbfa99078a780265f798d39ff3149afee72b53b8f9109bcbd3d0fd0"), looks := true }, kinds := [], alts := [], laidByText := true, laidKinds := [.data, .data, .data, .data, .pinned], laidTests := true, laidLooks := .later }
def RiverSpoiltUptoCardSaid : Prop := Claim7.holds Tryz.pinned (.plain (OpenSpec.upto riverSpoiltSpec)) riverSpoiltUptoCard
end Rows
end Go.Proofs.YtnhpibnneidmgaaGreatDoor
