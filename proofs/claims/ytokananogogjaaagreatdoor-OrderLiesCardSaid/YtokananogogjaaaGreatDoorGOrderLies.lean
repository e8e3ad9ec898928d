/- A fact of the whole program that the card of OrderLies asks: alone in its text, for its memory. -/
import Derived.Test.YtokananogogjaaaGreatDoorCards
namespace Go.Proofs.YtokananogogjaaaGreatDoor
set_option maxRecDepth 100000 in
theorem goes_orderLies : false = Rows.orderLiesRow.goesBy Tryz.pinned.checked.prog := by kernel_rfl
end Go.Proofs.YtokananogogjaaaGreatDoor
