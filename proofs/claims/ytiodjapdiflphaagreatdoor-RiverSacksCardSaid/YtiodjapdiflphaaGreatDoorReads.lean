/- A region that only reads and calls. -/
import Derived.Test.YtiodjapdiflphaaGreatDoorRefa
import Derived.BigQuiet
import Derived.Deep.QuietTactic
namespace Go.Proofs.YtiodjapdiflphaaGreatDoor
open Go.RowKit
/-- A region whose operations read, and whose callees hand back worlds that follow: one walk serves every order. -/
theorem region_reads {P : Program} {id : Nat} {Q : Exit → Act → World → Prop} {a : Act} {w : World} {l : List Oper} {C : World → Prop} (hm : P.follows .mixedOrders = true) (hB : Region.lexB .any l.toArray = true) (hC : C w.drew)
  (h : wpQuiet P l.toArray C (fun a' => ∀ w', C w' → Q .normal a' w') l a) : (Code.region id l.toArray true).wp P Q a w :=
 wp_region_quiet (C := C) hm hB hC (by simpa using h)
end Go.Proofs.YtiodjapdiflphaaGreatDoor
