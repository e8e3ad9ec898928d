/- A fact of the whole program that the card of OrderLetters asks: alone in its text, for its memory. -/
import Derived.Test.YtokananogogjaaaGreatDoorCards
namespace Go.Proofs.YtokananogogjaaaGreatDoor
set_option maxRecDepth 100000 in
theorem goes_orderLetters : false = Rows.orderLettersRow.goesBy Tryz.pinned.checked.prog := by kernel_rfl
end Go.Proofs.YtokananogogjaaaGreatDoor
