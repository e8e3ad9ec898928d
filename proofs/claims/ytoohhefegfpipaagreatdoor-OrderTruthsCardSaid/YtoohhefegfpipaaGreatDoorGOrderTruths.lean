/- A fact of the whole program that the card of OrderTruths asks: alone in its text, for its memory. -/
import Derived.Test.YtoohhefegfpipaaGreatDoorCards
namespace Go.Proofs.YtoohhefegfpipaaGreatDoor
set_option maxRecDepth 100000 in
theorem goes_orderTruths : false = Rows.orderTruthsRow.goesBy Tryz.pinned.checked.prog := by kernel_rfl
end Go.Proofs.YtoohhefegfpipaaGreatDoor
