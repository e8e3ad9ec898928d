/- A fact of the whole program that every card asks: alone in its text, for its memory. -/
import Derived.Test.YtokananogogjaaaGreatDoorCards
import Derived.Stop.Joined
namespace Go.Proofs.YtokananogogjaaaGreatDoor
set_option maxRecDepth 100000 in
theorem main_ok : Tryz.pinned.checked.prog.mainIs = some (true, "02f41e563dd56e1fd077fe4f504adc238e29f5eae4a9be7902d8649ecac6cca5".toList) := by kernel_rfl
end Go.Proofs.YtokananogogjaaaGreatDoor
