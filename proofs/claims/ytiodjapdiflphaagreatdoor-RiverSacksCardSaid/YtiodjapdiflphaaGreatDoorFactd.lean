/- A fact of the whole program that every card asks: alone in its text, for its memory. -/
import Derived.Test.YtiodjapdiflphaaGreatDoorCards
import Derived.Stop.Joined
namespace Go.Proofs.YtiodjapdiflphaaGreatDoor
set_option maxRecDepth 100000 in
theorem main_ok : Tryz.pinned.checked.prog.mainIs = some (true, "0dbeed3bd3aa9489bd59795517249788362f1820d4656a98ac5f70e542c11fb8".toList) := by kernel_rfl
end Go.Proofs.YtiodjapdiflphaaGreatDoor
