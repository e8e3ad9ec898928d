/- A fact of the whole program that the card of CardEnds asks: alone in its text, for its memory. -/
import Derived.Test.YtbeophjdiddomaaGreatDoorCards
namespace Go.Proofs.YtbeophjdiddomaaGreatDoor
set_option maxRecDepth 100000 in
theorem goes_cardEnds : false = Rows.cardEndsRow.goesBy Tryz.pinned.checked.prog := by kernel_rfl
end Go.Proofs.YtbeophjdiddomaaGreatDoor
