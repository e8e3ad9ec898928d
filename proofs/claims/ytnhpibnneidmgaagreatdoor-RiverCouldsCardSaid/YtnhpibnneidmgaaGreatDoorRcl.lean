/- The reference's Closed. -/
import Derived.Test.YtnhpibnneidmgaaGreatDoorRefa
import Derived.Test.YtnhpibnneidmgaaGreatDoorStateb
namespace Go.Proofs.YtnhpibnneidmgaaGreatDoor
open Go.RowKit
set_option maxRecDepth 100000 in
set_option maxHeartbeats 2000000 in
theorem rclosed_any (v : Value) (b : Book) (r y : Nat) (w : World) (hb : BookAt w v b) (hB : BookB b) (hr : r < b.rivers.length) (hy : (y : Int) < b.years) :
  Calls Tryz.prog 42 #[v, .agg #[.int .i64 (r : Int), .int .i64 (y : Int)]] w fun e w' => e = .returned (.bool (closedB b ((r : Int), (y : Int)))) ∧ Ext w w' := by
 obtain ⟨ra, rc, rfl, hr0⟩ := hb.slice
 obtain ⟨_, _, hvr, r1, r2, r3⟩ := hr0.open
 cases hvr
 obtain ⟨rb, ro, gv, R, rfl, hR, c0, c1, c2, hg⟩ := r3 r hr
 obtain ⟨ga, gc, rfl, _⟩ := hg.open
 have hcl := hB.closed R (List.mem_of_getElem? hR.out)
 have hp : (2 : Int) ^ b.years.toNat ≤ 64 := by
  have h := hB.y1
  have h6 := hB.y2
  rcases (by omega : b.years.toNat = 1 ∨ b.years.toNat = 2 ∨ b.years.toNat = 3 ∨ b.years.toNat = 4 ∨ b.years.toNat = 5 ∨ b.years.toNat = 6) with h | h | h | h | h | h <;> rw [h] <;> decide
 obtain ⟨c, hc⟩ : ∃ c : Nat, R.closed = c := ⟨R.closed.toNat, by omega⟩
 have hcb := closedB_nat (y := y) hR.out hc
 have hc64 : c < 64 := by omega
 have hbt := (has_bits c y (by omega)).trans hcb.symm
 rw [hc] at c2
 have HX0 := Lib.hid (((Ext.refl w).alloc _).alloc _ : Ext w ((w.alloc (.cells #[.int .i64 b.years, .slice (some ⟨rb, ro, none⟩) b.rivers.length rc] 24)).alloc (.cells #[.int .i64 (r : Int), .int .i64 (y : Int)] 50)))
 have d2 := HX0.out.cell c2
 have y6 : (y : Int) < 64 := by have := hB.y2; omega
 have i1 : (0 : Int) ≤ (r : Int) := by omega
 have i2 : (r : Int) < (b.rivers.length : Int) := by omega
 clear hb hr0 r3 c0 c1 c2 hg hcl hp hcb hc hR hB
 go_enter Tryz.func42, Tryz.ntmps42
 go_upto_region 1 with fail
 go_quiet (fail)
 go_wp2
 go_ret
 exact ⟨rfl, HX0.out.drewN _⟩
end Go.Proofs.YtnhpibnneidmgaaGreatDoor
