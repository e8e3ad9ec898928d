/- A fact of the whole program that the card of CardTours asks: alone in its text, for its memory. -/
import Derived.Test.YtpheidlocijdkaaGreatDoorCards
namespace Go.Proofs.YtpheidlocijdkaaGreatDoor
set_option maxRecDepth 100000 in
theorem goes_cardTours : false = Rows.cardToursRow.goesBy Tryz.pinned.checked.prog := by kernel_rfl
end Go.Proofs.YtpheidlocijdkaaGreatDoor
