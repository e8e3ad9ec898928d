/- The reference's functions on rounds: in, House, Round, Brought, Counted. -/
import Derived.Test.YtbeophjdiddomaaGreatDoorWeigh
import Derived.RangeFuncRecord
namespace Go.Proofs.YtbeophjdiddomaaGreatDoor
open Go.RowKit

theorem rin_any (x lo hi : Int) (w : World) :
    Calls Tryz.prog 24 #[.int .i64 x, .int .i64 lo, .int .i64 hi] w fun e w' => e = .returned (.bool (inB x lo hi)) ∧ w = w' := by
  go_enter Tryz.func24, Tryz.ntmps24
  go_wp2
  all_goals go_ret
  all_goals simp [inB, *]
  omega
theorem rhouse_any (h : House) (w : World) :
    Calls Tryz.prog 23 #[.agg h.cells.toArray] w fun e w' => e = .returned (.bool (!badHouse h)) ∧ Ext w w' := by
  unfold House.cells
  go_enter Tryz.func23, Tryz.ntmps23
  go_wp2_with (go_at_call 24; refine (rin_any _ _ _ _).mono ?_; rintro e w' ⟨rfl, rfl⟩)
  all_goals go_ret
  all_goals refine ⟨?_, (Ext.refl _).alloc _⟩
  all_goals simp [badHouse, *]

/-- The cells of a box that holds a round. -/
theorem round_cells {W : World} {b : Nat} {r : Round} {hv : Value} {t : TypeId} (h : W.heap[b]? = some (.cells #[.int .i64 r.per, .int .i64 r.lo, .int .i64 r.hi, .int .i64 r.card, .int .i64 r.slack, hv, .int .i64 r.all, .int .i64 r.off] t (0, 0))) :
    W.cell? ⟨b, 0, none⟩ = some (.int .i64 r.per) ∧ W.cell? ⟨b, 1, none⟩ = some (.int .i64 r.lo) ∧ W.cell? ⟨b, 2, none⟩ = some (.int .i64 r.hi) ∧ W.cell? ⟨b, 3, none⟩ = some (.int .i64 r.card) ∧ W.cell? ⟨b, 4, none⟩ = some (.int .i64 r.slack) ∧
    W.cell? ⟨b, 5, none⟩ = some hv ∧ W.cell? ⟨b, 6, none⟩ = some (.int .i64 r.all) ∧ W.cell? ⟨b, 7, none⟩ = some (.int .i64 r.off) := by simp [World.cell?, h]
/-- What lies below the rows that grow lies as it lay. -/
theorem kept_push {W W7 : World} {o x : Obj} {row : Option Nat} {b base : Nat} (hgr : (W.alloc o).grownBy W7 row) (h : W.heap[b]? = some x) (hr : ∀ g, row = some g → base ≤ g) (hb : b < base) : W7.heap[b]? = some x := by
  have hlt := (Array.getElem?_eq_some_iff.1 h).1
  exact (hgr.block b (by rw [World.size_alloc]; omega) (fun e => by have := hr _ e.symm; omega)).trans ((Below.heap_alloc _ _ _ hlt).trans h)
theorem isRoundB_bad {r : Round} (h : r.houses.any badHouse = true) : isRoundB r = false := by simp [isRoundB, h]
set_option maxRecDepth 100000 in
set_option maxHeartbeats 2000000 in
theorem rround_any (v : Value) (r : Round) (w : World) (hr : RoundAt w v r) :
    Calls Tryz.prog 8 #[v] w fun e w' => e = .returned (.bool (isRoundB r)) ∧ Ext w w' := by
  obtain ⟨hv, rfl, hh⟩ := hr
  unfold Round.cells
  obtain ⟨a, c, rfl, h1, h2, h3⟩ := hh.open
  have HH := Lib.hid h3
  clear h3 hh
  have hx0 : Ext w (w.alloc (.cells #[.int .i64 r.per, .int .i64 r.lo, .int .i64 r.hi, .int .i64 r.card, .int .i64 r.slack, .slice a r.houses.length c, .int .i64 r.all, .int .i64 r.off] 26)) := (Ext.refl w).alloc _
  have hb0 := World.alloc_heap_new w (.cells #[.int .i64 r.per, .int .i64 r.lo, .int .i64 r.hi, .int .i64 r.card, .int .i64 r.slack, .slice a r.houses.length c, .int .i64 r.all, .int .i64 r.off] 26)
  go_enter Tryz.func8, Tryz.ntmps8
  go_wp2
  go_loopw [3] (fun i wr => ∃ k : Nat, k ≤ r.houses.length ∧ i = .int .i64 k ∧ Hid ((r.houses.take k).any badHouse = false) ∧ Ext w wr ∧ Hid (wr.heap[w.heap.size]? = some (.cells #[.int .i64 r.per, .int .i64 r.lo, .int .i64 r.hi, .int .i64 r.card, .int .i64 r.slack, .slice a r.houses.length c, .int .i64 r.all, .int .i64 r.off] 26 (0, 0)))) (fun i _ => r.houses.length - (intOf i).toNat)
  case atStart => exact ⟨0, Nat.zero_le _, rfl, by simp [Hid], hx0, hb0⟩
  case round =>
    clear hx0 hb0
    obtain ⟨k, hk, rfl, hno, hx, hbx⟩ := hrel
    obtain ⟨z0, z1, z2, z3, z4, z5, z6, z7⟩ := round_cells hbx.out
    by_cases hlt : k < r.houses.length
    · obtain ⟨b, o, x, rfl, hxk, c0, c1, c2, c3, c4, c5⟩ := HH.out k hlt
      have d0 := hx.cell c0
      have d1 := hx.cell c1
      have d2 := hx.cell c2
      have d3 := hx.cell c3
      have d4 := hx.cell c4
      have d5 := hx.cell c5
      clear c0 c1 c2 c3 c4 c5
      have x2 : decide (k < r.houses.length) = true := by simpa using hlt
      go_wp2_with (go_at_call 23; refine Calls.mono (rhouse_any x _) ?_; rintro e w' ⟨rfl, hx'⟩)
      · go_ret
        exact ⟨by rw [isRoundB_bad (any_of_at badHouse hxk.out (by assumption))]; rfl, hx.trans hx'⟩
      · have hlt2 := (Array.getElem?_eq_some_iff.1 hbx.out).1
        go_roundw
        case rel => exact ⟨k + 1, by omega, by go_num, by unfold Hid; rw [any_take_succ badHouse hxk.out, hno.out]; simpa using ‹badHouse x = false›, hx.trans hx', (hx'.block hlt2).trans hbx.out⟩
        case measure => simp [intOf]; omega
    · have hke : k = r.houses.length := by omega
      subst hke
      have x2 : decide (r.houses.length < r.houses.length) = false := by simp
      have hnone : r.houses.any badHouse = false := by have := hno.out; rwa [List.take_of_length_le (Nat.le_refl _)] at this
      by_cases hb : 1 ≤ r.lo ∧ r.lo ≤ r.hi ∧ r.hi ≤ 50
      · obtain ⟨hb1, hb2, hb3⟩ := hb
        have hlo : inB r.lo 1 r.hi = true := by simp [inB]; omega
        go_wp2_with (go_at_call 24; refine (rin_any _ _ _ _).mono ?_; rintro e w' ⟨rfl, rfl⟩)
        all_goals go_ret
        all_goals refine ⟨?_, hx⟩
        all_goals first | (simp [isRoundB, *]; done) | (simp [isRoundB, *]; intros; omega)
      · have hf : isRoundB r = false := by
          cases h : isRoundB r with
          | false => rfl
          | true => have := roundB_of h; exact absurd ⟨this.l1, this.l2, this.l3⟩ hb
        have HF := Lib.hid hf
        clear hf
        by_cases g1 : 1 ≤ r.lo
        · by_cases g2 : r.lo ≤ r.hi
          · have g3 : 50 < r.hi := by omega
            have g3' : decide (r.hi ≤ 50) = false := by simp; omega
            go_wp2_with (go_at_call 24; refine (rin_any _ _ _ _).mono ?_; rintro e w' ⟨rfl, rfl⟩)
            all_goals go_ret
            all_goals exact ⟨by rw [HF.out]; rfl, hx⟩
          · have g2' : decide (r.lo ≤ r.hi) = false := by simpa using g2
            go_wp2_with (go_at_call 24; refine (rin_any _ _ _ _).mono ?_; rintro e w' ⟨rfl, rfl⟩)
            all_goals go_ret
            all_goals exact ⟨by rw [HF.out]; rfl, hx⟩
        · have g1' : decide (1 ≤ r.lo) = false := by simpa using g1
          go_wp2_with (go_at_call 24; refine (rin_any _ _ _ _).mono ?_; rintro e w' ⟨rfl, rfl⟩)
          all_goals go_ret
          all_goals exact ⟨by rw [HF.out]; rfl, hx⟩
end Go.Proofs.YtbeophjdiddomaaGreatDoor
