/- A fact of the whole program that the card of RiverCoulds asks: alone in its text, for its memory. -/
import Derived.Test.YtnhpibnneidmgaaGreatDoorCards
namespace Go.Proofs.YtnhpibnneidmgaaGreatDoor
set_option maxRecDepth 100000 in
theorem goes_riverCoulds : false = Rows.riverCouldsRow.goesBy Tryz.pinned.checked.prog := by kernel_rfl
end Go.Proofs.YtnhpibnneidmgaaGreatDoor
