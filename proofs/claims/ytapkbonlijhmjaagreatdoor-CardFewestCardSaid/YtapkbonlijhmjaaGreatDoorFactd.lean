/- A fact of the whole program that every card asks: alone in its text, for its memory. -/
import Derived.Test.YtapkbonlijhmjaaGreatDoorCards
import Derived.Stop.Joined
namespace Go.Proofs.YtapkbonlijhmjaaGreatDoor
set_option maxRecDepth 100000 in
theorem main_ok : Tryz.pinned.checked.prog.mainIs = some (true, "3c3c44757a0003bc406b632dd645643815aed8346ee432d389db504bc05e0156".toList) := by kernel_rfl
end Go.Proofs.YtapkbonlijhmjaaGreatDoor
