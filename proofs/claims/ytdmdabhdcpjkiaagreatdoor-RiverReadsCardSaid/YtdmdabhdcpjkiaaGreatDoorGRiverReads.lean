/- A fact of the whole program that the card of RiverReads asks: alone in its text, for its memory. -/
import Derived.Test.YtdmdabhdcpjkiaaGreatDoorCards
namespace Go.Proofs.YtdmdabhdcpjkiaaGreatDoor
set_option maxRecDepth 100000 in
theorem goes_riverReads : false = Rows.riverReadsRow.goesBy Tryz.pinned.checked.prog := by kernel_rfl
end Go.Proofs.YtdmdabhdcpjkiaaGreatDoor
