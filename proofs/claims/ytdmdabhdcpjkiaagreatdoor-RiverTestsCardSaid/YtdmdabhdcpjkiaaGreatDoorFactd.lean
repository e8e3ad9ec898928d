/- A fact of the whole program that every card asks: alone in its text, for its memory. -/
import Derived.Test.YtdmdabhdcpjkiaaGreatDoorCards
import Derived.Stop.Joined
namespace Go.Proofs.YtdmdabhdcpjkiaaGreatDoor
set_option maxRecDepth 100000 in
theorem main_ok : Tryz.pinned.checked.prog.mainIs = some (true, "01b7b7554244c8b545186261cbf0a247bd8f35a7d56639e19327bba4a453c1c9".toList) := by kernel_rfl
end Go.Proofs.YtdmdabhdcpjkiaaGreatDoor
