/- A fact of the whole program that every row asks: alone in its text, for its memory. -/
import Derived.Test.YtokananogogjaaaGreatDoorCards
namespace Go.Proofs.YtokananogogjaaaGreatDoor
set_option maxRecDepth 100000 in
theorem mayEnter_ok : Tryz.prog.mayEnter = true := by kernel_rfl
end Go.Proofs.YtokananogogjaaaGreatDoor
