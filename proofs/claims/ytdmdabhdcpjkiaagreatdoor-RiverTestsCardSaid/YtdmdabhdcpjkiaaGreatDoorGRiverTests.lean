/- A fact of the whole program that the card of RiverTests asks: alone in its text, for its memory. -/
import Derived.Test.YtdmdabhdcpjkiaaGreatDoorCards
namespace Go.Proofs.YtdmdabhdcpjkiaaGreatDoor
set_option maxRecDepth 100000 in
theorem goes_riverTests : false = Rows.riverTestsRow.goesBy Tryz.pinned.checked.prog := by kernel_rfl
end Go.Proofs.YtdmdabhdcpjkiaaGreatDoor
