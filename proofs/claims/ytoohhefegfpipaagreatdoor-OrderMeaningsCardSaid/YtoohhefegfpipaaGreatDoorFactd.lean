/- A fact of the whole program that every card asks: alone in its text, for its memory. -/
import Derived.Test.YtoohhefegfpipaaGreatDoorCards
import Derived.Stop.Joined
namespace Go.Proofs.YtoohhefegfpipaaGreatDoor
set_option maxRecDepth 100000 in
theorem main_ok : Tryz.pinned.checked.prog.mainIs = some (true, "d98a8539915f95ef2b2c5207e43abf72100fae1c0cb84909036bba1526f17be6".toList) := by kernel_rfl
end Go.Proofs.YtoohhefegfpipaaGreatDoor
