/- A fact of the whole program that every card asks: alone in its text, for its memory. -/
import Derived.Test.YtjbeiclfggjbmaaGreatDoorCards
import Derived.Stop.Joined
namespace Go.Proofs.YtjbeiclfggjbmaaGreatDoor
set_option maxRecDepth 100000 in
theorem main_ok : Tryz.pinned.checked.prog.mainIs = some (true, "e06ef2b89d9d6f1e8d19428a6cb80f5480ef87fff6fdbf8cf130b401d085e44d".toList) := by kernel_rfl
end Go.Proofs.YtjbeiclfggjbmaaGreatDoor
