/- A fact of the whole program that every card asks: alone in its text, for its memory. -/
import Derived.Test.YtoohhefegfpipaaGreatDoorCards
namespace Go.Proofs.YtoohhefegfpipaaGreatDoor
set_option maxRecDepth 100000 in
theorem make_ok : (Tryz.prog.make == some Rows.orderTruthsRow.make) = true := by kernel_rfl
end Go.Proofs.YtoohhefegfpipaaGreatDoor
