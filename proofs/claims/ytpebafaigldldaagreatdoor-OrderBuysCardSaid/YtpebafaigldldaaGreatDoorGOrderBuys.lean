/- A fact of the whole program that the card of OrderBuys asks: alone in its text, for its memory. -/
import Derived.Test.YtpebafaigldldaaGreatDoorCards
namespace Go.Proofs.YtpebafaigldldaaGreatDoor
set_option maxRecDepth 100000 in
theorem goes_orderBuys : false = Rows.orderBuysRow.goesBy Tryz.pinned.checked.prog := by kernel_rfl
end Go.Proofs.YtpebafaigldldaaGreatDoor
