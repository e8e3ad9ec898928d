/- A fact of the whole program that every card asks: alone in its text, for its memory. -/
import Derived.Test.YtpheidlocijdkaaGreatDoorCards
import Derived.Stop.Joined
namespace Go.Proofs.YtpheidlocijdkaaGreatDoor
set_option maxRecDepth 100000 in
theorem main_ok : Tryz.pinned.checked.prog.mainIs = some (true, "74c8df3aaba652646e883e3191af2c7b6381554342b2fd6c2d0e0c0cb46f55cc".toList) := by kernel_rfl
end Go.Proofs.YtpheidlocijdkaaGreatDoor
