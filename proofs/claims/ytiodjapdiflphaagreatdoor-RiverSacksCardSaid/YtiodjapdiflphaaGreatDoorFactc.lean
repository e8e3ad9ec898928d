/- A fact of the whole program that every card asks: alone in its text, for its memory. -/
import Derived.Test.YtiodjapdiflphaaGreatDoorCards
namespace Go.Proofs.YtiodjapdiflphaaGreatDoor
set_option maxRecDepth 100000 in
theorem make_ok : (Tryz.prog.make == some Rows.riverTestsRow.make) = true := by kernel_rfl
end Go.Proofs.YtiodjapdiflphaaGreatDoor
