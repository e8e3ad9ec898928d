/- The law's bought. -/
import Derived.Test.YtpheidlocijdkaaGreatDoorTruep
import Derived.Test.YtpheidlocijdkaaGreatDoorParts
namespace Go.Proofs.YtpheidlocijdkaaGreatDoor
open Go.RowKit

abbrev boxS (l h : Int) : Obj := .cells #[.int .i64 l, .int .i64 h] 23
def boughtB (r : Round) (h : House) (full loose : Int) : Bool := decide (0 ≤ full) && decide (full ≤ h.cards) && decide (0 ≤ loose) && decide (loose < r.per)
set_option maxRecDepth 100000 in
set_option maxHeartbeats 2000000 in
theorem bought_any (v : Value) (r : Round) (i : Nat) (h : House) (full loose : Int) (w : World) (hr : RoundAt w v r) (hi : r.houses[i]? = some h) (_hn : r.houses.length ≤ 4) :
    Calls Tryz.prog 33 #[v, .int .i64 i, .int .i64 full, .int .i64 loose] w fun e w' => e = .returned (.bool (boughtB r h full loose)) ∧ Ext w w' := by
  have hlt := (List.getElem?_eq_some_iff.1 hi).1
  obtain ⟨hv, rfl, hh⟩ := hr
  obtain ⟨a, c, rfl, h1, h2, h3⟩ := hh.open
  obtain ⟨b, o, x, rfl, hxk, c0, c1, c2, c3, c4, c5⟩ := h3 i hlt
  have hxh : x = h := by have := hxk.out; rw [hi] at this; cases this; rfl
  subst hxh
  unfold Round.cells boughtB at *
  have hx0 : Ext w (w.alloc (boxD r (some ⟨b, o, none⟩) c)) := (Ext.refl w).alloc _
  have HX := Lib.hid hx0
  have k1 := hx0.cell c1
  obtain ⟨z0, z1, z2, z3, z4, z5, z6, z7⟩ := round_cells (World.alloc_heap_new w (boxD r (some ⟨b, o, none⟩) c))
  have x3 : (i : Int) < (r.houses.length : Int) := by omega
  have x7 : (0 : Int) ≤ (i : Int) := by omega
  clear h3 hh hxk hi hx0 c0 c1 c2 c3 c4 c5 z1 z2 z3 z4 z6 z7
  cases q1 : decide (0 ≤ full) with
  | false =>
    go_enter Tryz.func33, Tryz.ntmps33
    go_wp2
    go_ret
    exact ⟨rfl, HX.out⟩
  | true =>
    cases q2 : decide (full ≤ x.cards) with
    | false =>
      go_enter Tryz.func33, Tryz.ntmps33
      go_wp2
      go_ret
      exact ⟨rfl, HX.out⟩
    | true =>
      cases q3 : decide (0 ≤ loose) with
      | false =>
        go_enter Tryz.func33, Tryz.ntmps33
        go_wp2
        go_ret
        exact ⟨rfl, HX.out⟩
      | true =>
        cases q4 : decide (loose < r.per) with
        | false =>
          go_enter Tryz.func33, Tryz.ntmps33
          go_wp2
          go_ret
          exact ⟨rfl, HX.out⟩
        | true =>
          go_enter Tryz.func33, Tryz.ntmps33
          go_wp2
          go_ret
          exact ⟨rfl, HX.out⟩
theorem bought_can {r : Round} {b : Int} {h : House} {full loose : Int} (hc : canB r b h full loose = true) : boughtB r h full loose = true := by
  unfold canB at hc
  simp only [Bool.and_eq_true, inB_iff] at hc
  obtain ⟨⟨⟨⟨h1, h2⟩, h3, h4⟩, _⟩, _⟩ := hc
  unfold boughtB
  simp only [Bool.and_eq_true, decide_eq_true_eq]
  omega
end Go.Proofs.YtpheidlocijdkaaGreatDoor
