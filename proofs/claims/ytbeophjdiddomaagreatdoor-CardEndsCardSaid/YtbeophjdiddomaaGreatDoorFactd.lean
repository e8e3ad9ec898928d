/- A fact of the whole program that every card asks: alone in its text, for its memory. -/
import Derived.Test.YtbeophjdiddomaaGreatDoorCards
import Derived.Stop.Joined
namespace Go.Proofs.YtbeophjdiddomaaGreatDoor
set_option maxRecDepth 100000 in
theorem main_ok : Tryz.pinned.checked.prog.mainIs = some (true, "c3061b693812d162feaca8034c8895f77f96586a182f705037da53ef4dcfd7ef".toList) := by kernel_rfl
end Go.Proofs.YtbeophjdiddomaaGreatDoor
