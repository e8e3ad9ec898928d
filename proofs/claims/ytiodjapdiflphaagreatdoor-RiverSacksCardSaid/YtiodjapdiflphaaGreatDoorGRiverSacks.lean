/- A fact of the whole program that the card of RiverSacks asks: alone in its text, for its memory. -/
import Derived.Test.YtiodjapdiflphaaGreatDoorCards
namespace Go.Proofs.YtiodjapdiflphaaGreatDoor
set_option maxRecDepth 100000 in
theorem goes_riverSacks : false = Rows.riverSacksRow.goesBy Tryz.pinned.checked.prog := by kernel_rfl
end Go.Proofs.YtiodjapdiflphaaGreatDoor
