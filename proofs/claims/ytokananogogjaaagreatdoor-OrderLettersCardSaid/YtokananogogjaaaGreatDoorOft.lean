/- A proposed truth in memory. -/
import Derived.Test.YtokananogogjaaaGreatDoorOc
namespace Go.Proofs.YtokananogogjaaaGreatDoor
open Go.RowKit
def TruthAt (w : World) (v : Value) (t : List (List Int)) : Prop := ∃ tv, v = .agg #[tv] ∧ IntRowsAt w tv t
end Go.Proofs.YtokananogogjaaaGreatDoor
