/- A fact of the whole program that the card of RiverDeals asks: alone in its text, for its memory. -/
import Derived.Test.YtabkfohbdfpdpaaGreatDoorCards
namespace Go.Proofs.YtabkfohbdfpdpaaGreatDoor
set_option maxRecDepth 100000 in
theorem goes_riverDeals : false = Rows.riverDealsRow.goesBy Tryz.pinned.checked.prog := by kernel_rfl
end Go.Proofs.YtabkfohbdfpdpaaGreatDoor
