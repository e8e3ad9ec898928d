/- What the laws' walks share. -/
import Derived.Test.YtdmdabhdcpjkiaaGreatDoorKnown
import Derived.Test.YtdmdabhdcpjkiaaGreatDoorRefa
import Derived.Test.YtdmdabhdcpjkiaaGreatDoorOpen
namespace Go.Proofs.YtdmdabhdcpjkiaaGreatDoor
open Go.RowKit
structure LawB (v : Value) (b : Book) (w : World) : Prop where
 known : ∀ w1, Ext w w1 → Calls Tryz.prog 10 #[] w1 (TrueP w1)
 slim : ∀ w1, Ext w w1 → Calls Tryz.prog 8 #[v] w1 fun e w' => e = .returned (.bool (slimB b)) ∧ Ext w1 w'
 book : ∀ w1, Ext w w1 → Calls Tryz.prog 12 #[v] w1 fun e w' => e = .returned (.bool (isBookB b)) ∧ Ext w1 w'
theorem LawB.of {v : Value} {b : Book} {w : World} (hb : BookAt w v b) (ht : TabOk w) : LawB v b w :=
 ⟨fun w1 h => lknown_any w1 (ht.ext h), fun w1 h => slim_any v b w1 (hb.ext h), fun w1 h => rbook_any v b w1 (hb.ext h)⟩
end Go.Proofs.YtdmdabhdcpjkiaaGreatDoor
