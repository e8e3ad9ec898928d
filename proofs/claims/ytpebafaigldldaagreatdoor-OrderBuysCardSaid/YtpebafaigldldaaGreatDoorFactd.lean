/- A fact of the whole program that every card asks: alone in its text, for its memory. -/
import Derived.Test.YtpebafaigldldaaGreatDoorCards
import Derived.Stop.Joined
namespace Go.Proofs.YtpebafaigldldaaGreatDoor
set_option maxRecDepth 100000 in
theorem main_ok : Tryz.pinned.checked.prog.mainIs = some (true, "9d3b120312c45343d1864fd3c328be9693411649d68ed0414aee2ef7e91ac6ee".toList) := by kernel_rfl
end Go.Proofs.YtpebafaigldldaaGreatDoor
