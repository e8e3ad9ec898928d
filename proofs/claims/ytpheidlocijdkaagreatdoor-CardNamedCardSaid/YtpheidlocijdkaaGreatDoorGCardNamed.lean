/- A fact of the whole program that the card of CardNamed asks: alone in its text, for its memory. -/
import Derived.Test.YtpheidlocijdkaaGreatDoorCards
namespace Go.Proofs.YtpheidlocijdkaaGreatDoor
set_option maxRecDepth 100000 in
theorem goes_cardNamed : false = Rows.cardNamedRow.goesBy Tryz.pinned.checked.prog := by kernel_rfl
end Go.Proofs.YtpheidlocijdkaaGreatDoor
