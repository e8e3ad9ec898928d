/- A row of two numbers. -/
import Derived.Test.YtiodjapdiflphaaGreatDoorBookq
namespace Go.Proofs.YtiodjapdiflphaaGreatDoor
open Go.RowKit
theorem two_ints (w : World) (b : Nat) (c d : Int) (h0 : w.cell? ⟨b, 0, none⟩ = some (.int .i64 c)) (h1 : w.cell? ⟨b, 1, none⟩ = some (.int .i64 d)) : IntsAt w (.slice (some ⟨b, 0, none⟩) 2 2) [c, d] := by
 refine ⟨_, 2, rfl, Nat.le_refl _, by decide, (fun h => by cases h), fun j u hj => ?_⟩
 match j with
 | 0 => simp at hj; subst hj; exact ⟨b, 0, rfl, h0⟩
 | 1 => simp at hj; subst hj; exact ⟨b, 0, rfl, h1⟩
 | j + 2 => simp at hj
end Go.Proofs.YtiodjapdiflphaaGreatDoor
