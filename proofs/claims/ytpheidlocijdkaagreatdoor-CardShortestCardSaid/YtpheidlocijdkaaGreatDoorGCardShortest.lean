/- A fact of the whole program that the card of CardShortest asks: alone in its text, for its memory. -/
import Derived.Test.YtpheidlocijdkaaGreatDoorCards
namespace Go.Proofs.YtpheidlocijdkaaGreatDoor
set_option maxRecDepth 100000 in
theorem goes_cardShortest : false = Rows.cardShortestRow.goesBy Tryz.pinned.checked.prog := by kernel_rfl
end Go.Proofs.YtpheidlocijdkaaGreatDoor
