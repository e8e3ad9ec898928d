/- A fact of the whole program that the card of CardPaid asks: alone in its text, for its memory. -/
import Derived.Test.YtjbeiclfggjbmaaGreatDoorCards
namespace Go.Proofs.YtjbeiclfggjbmaaGreatDoor
set_option maxRecDepth 100000 in
theorem goes_cardPaid : false = Rows.cardPaidRow.goesBy Tryz.pinned.checked.prog := by kernel_rfl
end Go.Proofs.YtjbeiclfggjbmaaGreatDoor
