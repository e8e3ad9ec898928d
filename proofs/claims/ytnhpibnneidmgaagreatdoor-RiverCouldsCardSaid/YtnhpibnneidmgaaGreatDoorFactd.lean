/- A fact of the whole program that every card asks: alone in its text, for its memory. -/
import Derived.Test.YtnhpibnneidmgaaGreatDoorCards
import Derived.Stop.Joined
namespace Go.Proofs.YtnhpibnneidmgaaGreatDoor
set_option maxRecDepth 100000 in
theorem main_ok : Tryz.pinned.checked.prog.mainIs = some (true, "47b2becb3fbfa99078a780265f798d39ff3149afee72b53b8f9109bcbd3d0fd0".toList) := by kernel_rfl
end Go.Proofs.YtnhpibnneidmgaaGreatDoor
