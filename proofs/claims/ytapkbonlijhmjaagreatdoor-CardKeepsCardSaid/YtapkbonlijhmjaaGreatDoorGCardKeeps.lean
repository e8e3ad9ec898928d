/- A fact of the whole program that the card of CardKeeps asks: alone in its text, for its memory. -/
import Derived.Test.YtapkbonlijhmjaaGreatDoorCards
namespace Go.Proofs.YtapkbonlijhmjaaGreatDoor
set_option maxRecDepth 100000 in
theorem goes_cardKeeps : false = Rows.cardKeepsRow.goesBy Tryz.pinned.checked.prog := by kernel_rfl
end Go.Proofs.YtapkbonlijhmjaaGreatDoor
