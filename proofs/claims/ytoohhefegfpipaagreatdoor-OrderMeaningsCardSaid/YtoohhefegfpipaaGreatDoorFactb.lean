/- A fact of the whole program that every row asks: alone in its text, for its memory. -/
import Derived.Test.YtoohhefegfpipaaGreatDoorCards
namespace Go.Proofs.YtoohhefegfpipaaGreatDoor
set_option maxRecDepth 100000 in
theorem lifts_ok : (Rows.orderTruthsRow.lifted == Tryz.prog.liftsFinal) = true := by kernel_rfl
end Go.Proofs.YtoohhefegfpipaaGreatDoor
