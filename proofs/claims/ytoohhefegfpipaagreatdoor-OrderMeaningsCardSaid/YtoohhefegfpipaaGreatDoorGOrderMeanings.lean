/- A fact of the whole program that the card of OrderMeanings asks: alone in its text, for its memory. -/
import Derived.Test.YtoohhefegfpipaaGreatDoorCards
namespace Go.Proofs.YtoohhefegfpipaaGreatDoor
set_option maxRecDepth 100000 in
theorem goes_orderMeanings : false = Rows.orderMeaningsRow.goesBy Tryz.pinned.checked.prog := by kernel_rfl
end Go.Proofs.YtoohhefegfpipaaGreatDoor
