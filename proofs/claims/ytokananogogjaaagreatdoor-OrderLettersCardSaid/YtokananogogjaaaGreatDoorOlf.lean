/- The reference's Fits, in plain Lean. -/
import Derived.Test.YtokananogogjaaaGreatDoorOrl
namespace Go.Proofs.YtokananogogjaaaGreatDoor
open Go.RowKit
def goesB (b : Book) (t : List (List Int)) (e : Nat) : Bool := nodupB (t.getD e []) && (decide (e = 0) || decide (movedL (t.getD (e - 1) []) (t.getD e []) ≤ b.moves))
def liesB (t : List (List Int)) (x : Int × Int × Int) : Bool := (t.getD x.1.toNat []).getD x.2.1.toNat 0 != x.2.2
theorem fits_ref {b : Book} {t : List (List Int)} (hB : BookB b) (ht : (t.length : Int) = b.editions) : fitsB b t = ((List.range t.length).all (goesB b t) && !(b.entries.any (liesB t))) := by
 unfold fitsB
 rw [Bool.eq_iff_iff, Bool.and_eq_true, Bool.not_eq_true', List.any_eq_false, List.all_eq_true, List.all_eq_true]
 constructor
 ·intro h
  refine ⟨fun e he => ?_, fun x hx => ?_⟩
  ·have h1 := h e he
   unfold fitB suitsB at h1
   unfold goesB
   rw [Bool.and_eq_true, Bool.and_eq_true] at h1
   rw [Bool.and_eq_true]
   exact ⟨h1.1.1, h1.2⟩
  ·obtain ⟨⟨a0, a1⟩, _, _⟩ := hB.entries x hx
   have h1 := h x.1.toNat (List.mem_range.2 (by omega))
   unfold fitB suitsB allowedB at h1
   rw [Bool.and_eq_true, Bool.and_eq_true, Bool.not_eq_true', List.any_eq_false] at h1
   have h2 := h1.1.2 x hx
   unfold breaks at h2
   rw [Int.toNat_of_nonneg a0] at h2
   simp only [beq_self_eq_true, Bool.true_and] at h2
   exact h2
 ·rintro ⟨h, g⟩ e he
  have h1 := h e he
  unfold goesB at h1
  unfold fitB suitsB allowedB
  rw [Bool.and_eq_true] at h1
  rw [Bool.and_eq_true, Bool.and_eq_true, Bool.not_eq_true', List.any_eq_false]
  refine ⟨⟨h1.1, fun x hx => ?_⟩, h1.2⟩
  have h2 := g x hx
  unfold liesB at h2
  unfold breaks
  intro h3
  rw [Bool.and_eq_true, beq_iff_eq] at h3
  apply h2
  rw [h3.1, Int.toNat_natCast]
  exact h3.2
end Go.Proofs.YtokananogogjaaaGreatDoor
