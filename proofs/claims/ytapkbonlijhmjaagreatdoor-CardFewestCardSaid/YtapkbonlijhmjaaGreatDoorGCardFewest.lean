/- A fact of the whole program that the card of CardFewest asks: alone in its text, for its memory. -/
import Derived.Test.YtapkbonlijhmjaaGreatDoorCards
namespace Go.Proofs.YtapkbonlijhmjaaGreatDoor
set_option maxRecDepth 100000 in
theorem goes_cardFewest : false = Rows.cardFewestRow.goesBy Tryz.pinned.checked.prog := by kernel_rfl
end Go.Proofs.YtapkbonlijhmjaaGreatDoor
