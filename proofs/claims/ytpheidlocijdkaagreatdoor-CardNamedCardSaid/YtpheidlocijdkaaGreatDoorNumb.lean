/- The reference's Number. -/
import Derived.Test.YtpheidlocijdkaaGreatDoorOpened
namespace Go.Proofs.YtpheidlocijdkaaGreatDoor
open Go.RowKit

theorem rnumber_any (v : Value) (r : Round) (n : Int) (w : World) (hr : RoundAt w v r) :
    Calls Tryz.prog 32 #[v, .int .i64 n] w fun e w' => e = .returned (.bool (inB n 0 (r.houses.length - 1))) ∧ Ext w w' := by
  obtain ⟨hv, rfl, hh⟩ := hr
  obtain ⟨a, c, rfl, h1, h2, _⟩ := hh.open
  have HI := Lib.hid (fun w1 => rin_any n 0 (r.houses.length - 1) w1)
  unfold Round.cells
  clear hh
  go_enter Tryz.func32, Tryz.ntmps32
  go_wp2_with (go_at_call 63; refine (HI.out _).mono ?_; rintro e w' ⟨rfl, rfl⟩)
  go_ret
  exact ⟨rfl, (Ext.refl _).alloc _⟩
end Go.Proofs.YtpheidlocijdkaaGreatDoor
