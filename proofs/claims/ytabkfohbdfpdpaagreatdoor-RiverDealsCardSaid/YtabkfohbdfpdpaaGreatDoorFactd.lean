/- A fact of the whole program that every card asks: alone in its text, for its memory. -/
import Derived.Test.YtabkfohbdfpdpaaGreatDoorCards
import Derived.Stop.Joined
namespace Go.Proofs.YtabkfohbdfpdpaaGreatDoor
set_option maxRecDepth 100000 in
theorem main_ok : Tryz.pinned.checked.prog.mainIs = some (true, "62719ace6e3f9cef8e2d083e17bdbc7decebce49416eb62602d8fc772851e7a0".toList) := by kernel_rfl
end Go.Proofs.YtabkfohbdfpdpaaGreatDoor
