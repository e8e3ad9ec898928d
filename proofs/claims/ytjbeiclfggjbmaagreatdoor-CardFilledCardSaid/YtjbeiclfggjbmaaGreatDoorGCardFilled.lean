/- A fact of the whole program that the card of CardFilled asks: alone in its text, for its memory. -/
import Derived.Test.YtjbeiclfggjbmaaGreatDoorCards
namespace Go.Proofs.YtjbeiclfggjbmaaGreatDoor
set_option maxRecDepth 100000 in
theorem goes_cardFilled : false = Rows.cardFilledRow.goesBy Tryz.pinned.checked.prog := by kernel_rfl
end Go.Proofs.YtjbeiclfggjbmaaGreatDoor
