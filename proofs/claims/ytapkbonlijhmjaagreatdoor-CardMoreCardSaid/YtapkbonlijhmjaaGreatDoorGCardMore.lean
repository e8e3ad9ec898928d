/- A fact of the whole program that the card of CardMore asks: alone in its text, for its memory. -/
import Derived.Test.YtapkbonlijhmjaaGreatDoorCards
namespace Go.Proofs.YtapkbonlijhmjaaGreatDoor
set_option maxRecDepth 100000 in
theorem goes_cardMore : false = Rows.cardMoreRow.goesBy Tryz.pinned.checked.prog := by kernel_rfl
end Go.Proofs.YtapkbonlijhmjaaGreatDoor
