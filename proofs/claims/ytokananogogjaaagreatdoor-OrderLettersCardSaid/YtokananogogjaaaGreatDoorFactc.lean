/- A fact of the whole program that every card asks: alone in its text, for its memory. -/
import Derived.Test.YtokananogogjaaaGreatDoorCards
namespace Go.Proofs.YtokananogogjaaaGreatDoor
set_option maxRecDepth 100000 in
theorem make_ok : (Tryz.prog.make == some Rows.orderLettersRow.make) = true := by kernel_rfl
end Go.Proofs.YtokananogogjaaaGreatDoor
