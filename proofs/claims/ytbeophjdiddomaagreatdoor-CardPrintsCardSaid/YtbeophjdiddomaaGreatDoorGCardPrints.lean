/- A fact of the whole program that the card of CardPrints asks: alone in its text, for its memory. -/
import Derived.Test.YtbeophjdiddomaaGreatDoorCards
namespace Go.Proofs.YtbeophjdiddomaaGreatDoor
set_option maxRecDepth 100000 in
theorem goes_cardPrints : false = Rows.cardPrintsRow.goesBy Tryz.pinned.checked.prog := by kernel_rfl
end Go.Proofs.YtbeophjdiddomaaGreatDoor
