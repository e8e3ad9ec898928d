/- The reference's functions on rounds: in, House, Round, Brought, Counted. -/
import Derived.Test.YtpheidlocijdkaaGreatDoorWeigh
import Derived.RangeFuncRecord
namespace Go.Proofs.YtpheidlocijdkaaGreatDoor
open Go.RowKit

theorem rin_any (x lo hi : Int) (w : World) :
    Calls Tryz.prog 63 #[.int .i64 x, .int .i64 lo, .int .i64 hi] w fun e w' => e = .returned (.bool (inB x lo hi)) ∧ w = w' := by
  go_enter Tryz.func63, Tryz.ntmps63
  go_wp2
  all_goals go_ret
  all_goals simp [inB, *]
  omega
theorem rhouse_any (h : House) (w : World) :
    Calls Tryz.prog 62 #[.agg h.cells.toArray] w fun e w' => e = .returned (.bool (!badHouse h)) ∧ Ext w w' := by
  unfold House.cells
  go_enter Tryz.func62, Tryz.ntmps62
  go_wp2_with (go_at_call 63; refine (rin_any _ _ _ _).mono ?_; rintro e w' ⟨rfl, rfl⟩)
  all_goals go_ret
  all_goals refine ⟨?_, (Ext.refl _).alloc _⟩
  all_goals simp [badHouse, *]

/-- The cells of a box that holds a round. -/
theorem round_cells {W : World} {b : Nat} {r : Round} {hv : Value} {t : TypeId} (h : W.heap[b]? = some (.cells #[.int .i64 r.per, .int .i64 r.lo, .int .i64 r.hi, .int .i64 r.card, .int .i64 r.slack, hv, .int .i64 r.all, .int .i64 r.off] t (0, 0))) :
    W.cell? ⟨b, 0, none⟩ = some (.int .i64 r.per) ∧ W.cell? ⟨b, 1, none⟩ = some (.int .i64 r.lo) ∧ W.cell? ⟨b, 2, none⟩ = some (.int .i64 r.hi) ∧ W.cell? ⟨b, 3, none⟩ = some (.int .i64 r.card) ∧ W.cell? ⟨b, 4, none⟩ = some (.int .i64 r.slack) ∧
    W.cell? ⟨b, 5, none⟩ = some hv ∧ W.cell? ⟨b, 6, none⟩ = some (.int .i64 r.all) ∧ W.cell? ⟨b, 7, none⟩ = some (.int .i64 r.off) := by simp [World.cell?, h]
/-- What lies below the rows that grow lies as it lay. -/
theorem kept_push {W W7 : World} {o x : Obj} {row : Option Nat} {b base : Nat} (hgr : (W.alloc o).grownBy W7 row) (h : W.heap[b]? = some x) (hr : ∀ g, row = some g → base ≤ g) (hb : b < base) : W7.heap[b]? = some x := by
  have hlt := (Array.getElem?_eq_some_iff.1 h).1
  exact (hgr.block b (by rw [World.size_alloc]; omega) (fun e => by have := hr _ e.symm; omega)).trans ((Below.heap_alloc _ _ _ hlt).trans h)
theorem isRoundB_bad {r : Round} (h : r.houses.any badHouse = true) : isRoundB r = false := by simp [isRoundB, h]
set_option maxRecDepth 100000 in
set_option maxHeartbeats 2000000 in
theorem rround_any (v : Value) (r : Round) (w : World) (hr : RoundAt w v r) :
    Calls Tryz.prog 13 #[v] w fun e w' => e = .returned (.bool (isRoundB r)) ∧ Ext w w' := by
  obtain ⟨hv, rfl, hh⟩ := hr
  unfold Round.cells
  obtain ⟨a, c, rfl, h1, h2, h3⟩ := hh.open
  have HH := Lib.hid h3
  clear h3 hh
  have hx0 : Ext w (w.alloc (.cells #[.int .i64 r.per, .int .i64 r.lo, .int .i64 r.hi, .int .i64 r.card, .int .i64 r.slack, .slice a r.houses.length c, .int .i64 r.all, .int .i64 r.off] 26)) := (Ext.refl w).alloc _
  have hb0 := World.alloc_heap_new w (.cells #[.int .i64 r.per, .int .i64 r.lo, .int .i64 r.hi, .int .i64 r.card, .int .i64 r.slack, .slice a r.houses.length c, .int .i64 r.all, .int .i64 r.off] 26)
  go_enter Tryz.func13, Tryz.ntmps13
  go_wp2
  go_loopw [3] (fun i wr => ∃ k : Nat, k ≤ r.houses.length ∧ i = .int .i64 k ∧ Hid ((r.houses.take k).any badHouse = false) ∧ Ext w wr ∧ Hid (wr.heap[w.heap.size]? = some (.cells #[.int .i64 r.per, .int .i64 r.lo, .int .i64 r.hi, .int .i64 r.card, .int .i64 r.slack, .slice a r.houses.length c, .int .i64 r.all, .int .i64 r.off] 26 (0, 0)))) (fun i _ => r.houses.length - (intOf i).toNat)
  case atStart => exact ⟨0, Nat.zero_le _, rfl, by simp [Hid], hx0, hb0⟩
  case round =>
    clear hx0 hb0
    obtain ⟨k, hk, rfl, hno, hx, hbx⟩ := hrel
    obtain ⟨z0, z1, z2, z3, z4, z5, z6, z7⟩ := round_cells hbx.out
    by_cases hlt : k < r.houses.length
    · obtain ⟨b, o, x, rfl, hxk, c0, c1, c2, c3, c4, c5⟩ := HH.out k hlt
      have d0 := hx.cell c0
      have d1 := hx.cell c1
      have d2 := hx.cell c2
      have d3 := hx.cell c3
      have d4 := hx.cell c4
      have d5 := hx.cell c5
      clear c0 c1 c2 c3 c4 c5
      have x2 : decide (k < r.houses.length) = true := by simpa using hlt
      go_wp2_with (go_at_call 62; refine Calls.mono (rhouse_any x _) ?_; rintro e w' ⟨rfl, hx'⟩)
      · go_ret
        exact ⟨by rw [isRoundB_bad (any_of_at badHouse hxk.out (by assumption))]; rfl, hx.trans hx'⟩
      · have hlt2 := (Array.getElem?_eq_some_iff.1 hbx.out).1
        go_roundw
        case rel => exact ⟨k + 1, by omega, by go_num, by unfold Hid; rw [any_take_succ badHouse hxk.out, hno.out]; simpa using ‹badHouse x = false›, hx.trans hx', (hx'.block hlt2).trans hbx.out⟩
        case measure => simp [intOf]; omega
    · have hke : k = r.houses.length := by omega
      subst hke
      have x2 : decide (r.houses.length < r.houses.length) = false := by simp
      have hnone : r.houses.any badHouse = false := by have := hno.out; rwa [List.take_of_length_le (Nat.le_refl _)] at this
      by_cases hb : 1 ≤ r.lo ∧ r.lo ≤ r.hi ∧ r.hi ≤ 50
      · obtain ⟨hb1, hb2, hb3⟩ := hb
        have hlo : inB r.lo 1 r.hi = true := by simp [inB]; omega
        go_wp2_with (go_at_call 63; refine (rin_any _ _ _ _).mono ?_; rintro e w' ⟨rfl, rfl⟩)
        all_goals go_ret
        all_goals refine ⟨?_, hx⟩
        all_goals first | (simp [isRoundB, *]; done) | (simp [isRoundB, *]; intros; omega)
      · have hf : isRoundB r = false := by
          cases h : isRoundB r with
          | false => rfl
          | true => have := roundB_of h; exact absurd ⟨this.l1, this.l2, this.l3⟩ hb
        have HF := Lib.hid hf
        clear hf
        by_cases g1 : 1 ≤ r.lo
        · by_cases g2 : r.lo ≤ r.hi
          · have g3 : 50 < r.hi := by omega
            have g3' : decide (r.hi ≤ 50) = false := by simp; omega
            go_wp2_with (go_at_call 63; refine (rin_any _ _ _ _).mono ?_; rintro e w' ⟨rfl, rfl⟩)
            all_goals go_ret
            all_goals exact ⟨by rw [HF.out]; rfl, hx⟩
          · have g2' : decide (r.lo ≤ r.hi) = false := by simpa using g2
            go_wp2_with (go_at_call 63; refine (rin_any _ _ _ _).mono ?_; rintro e w' ⟨rfl, rfl⟩)
            all_goals go_ret
            all_goals exact ⟨by rw [HF.out]; rfl, hx⟩
        · have g1' : decide (1 ≤ r.lo) = false := by simpa using g1
          go_wp2_with (go_at_call 63; refine (rin_any _ _ _ _).mono ?_; rintro e w' ⟨rfl, rfl⟩)
          all_goals go_ret
          all_goals exact ⟨by rw [HF.out]; rfl, hx⟩

theorem rcounted_any (h : House) (full loose : Int) (w : World) (hb : badHouse h = false) (hf : 0 ≤ full) (hf' : full ≤ 60) (hl : 0 ≤ loose) (hl' : loose ≤ 36) :
    Calls Tryz.prog 82 #[.agg h.cells.toArray, .int .i64 full, .int .i64 loose] w fun e w' => e = .returned (.bool (countsB h full loose)) ∧ Ext w w' := by
  obtain ⟨⟨a1, a2⟩, ⟨b1, b2⟩, ⟨c1, c2⟩, ⟨d1, d2⟩, ⟨e1, e2⟩, ⟨f1, f2⟩⟩ := badHouse_iff.1 hb
  clear hb
  unfold House.cells
  go_enter Tryz.func82, Tryz.ntmps82
  go_wp2_with (go_at_call 63; refine (rin_any _ _ _ _).mono ?_; rintro e w' ⟨rfl, rfl⟩)
  all_goals go_ret
  all_goals refine ⟨?_, (Ext.refl _).alloc _⟩
  all_goals simp [countsB, *]
theorem canB_comm (r : Round) (button : Int) (h : House) (full loose : Int) : canB r button h full loose = (inB full 0 h.cards && inB loose 0 (r.per - 1) && decide (full * r.per + loose ≤ h.out) && inB ((full * r.per + loose) * button + full * r.card - h.weighed) (-r.slack) r.slack) := by
  unfold canB nOf; rw [Int.mul_comm r.per full]
set_option maxRecDepth 100000 in
set_option maxHeartbeats 2000000 in
theorem rbrought_any (v : Value) (r : Round) (i : Nat) (h : House) (button full loose : Int) (w : World) (hr : RoundAt w v r) (hB : RoundB r) (hi : r.houses[i]? = some h) (hw : r.lo ≤ button) (hw' : button ≤ r.hi) :
    Calls Tryz.prog 81 #[v, .int .i64 i, .int .i64 button, .int .i64 full, .int .i64 loose] w fun e w' => e = .returned (.bool (canB r button h full loose)) ∧ Ext w w' := by
  have hlt := (List.getElem?_eq_some_iff.1 hi).1
  have hb := hB.hs h (List.mem_of_getElem? hi)
  obtain ⟨⟨a1, a2⟩, ⟨b1, b2⟩, ⟨e1, e2⟩, ⟨d1, d2⟩, ⟨g1, g2⟩, ⟨f1, f2⟩⟩ := badHouse_iff.1 hb
  have p1 := hB.p1
  have p2 := hB.p2
  have l1 := hB.l1
  have l3 := hB.l3
  have m1 := hB.c1
  have m2 := hB.c2
  have s1 := hB.s1
  have s2 := hB.s2
  clear hB hb
  obtain ⟨hv, rfl, hh⟩ := hr
  unfold Round.cells
  obtain ⟨a, c, rfl, h1, h2, h3⟩ := hh.open
  obtain ⟨b, o, x, rfl, hxk, c0, c1, c2, c3, c4, c5⟩ := h3 i hlt
  have hxh : x = h := by have := hxk.out; rw [hi] at this; cases this; rfl
  subst hxh
  clear h3 hh hxk hi
  have hx0 : Ext w (w.alloc (.cells #[.int .i64 r.per, .int .i64 r.lo, .int .i64 r.hi, .int .i64 r.card, .int .i64 r.slack, .slice (some ⟨b, o, none⟩) r.houses.length c, .int .i64 r.all, .int .i64 r.off] 26)) := (Ext.refl w).alloc _
  have k0 := hx0.cell c0
  have k1 := hx0.cell c1
  have k2 := hx0.cell c2
  have k3 := hx0.cell c3
  have k4 := hx0.cell c4
  have k5 := hx0.cell c5
  clear c0 c1 c2 c3 c4 c5 hx0
  rw [canB_comm]
  cases hq1 : inB full 0 x.cards with
  | false =>
    go_enter Tryz.func81, Tryz.ntmps81
    go_wp2_with (go_at_call 63; refine (rin_any _ _ _ _).mono ?_; rintro e w' ⟨rfl, rfl⟩)
    go_ret
    exact ⟨rfl, ((Ext.refl w).alloc _).alloc _⟩
  | true =>
    obtain ⟨n1, n2⟩ := inB_iff.1 hq1
    cases hq2 : inB loose 0 (r.per - 1) with
    | false =>
      go_enter Tryz.func81, Tryz.ntmps81
      go_wp2_with (go_at_call 63; refine (rin_any _ _ _ _).mono ?_; rintro e w' ⟨rfl, rfl⟩)
      go_ret
      exact ⟨rfl, ((Ext.refl w).alloc _).alloc _⟩
    | true =>
      obtain ⟨n3, n4⟩ := inB_iff.1 hq2
      have t1 : 0 ≤ full * r.per := Int.mul_nonneg n1 (by omega)
      have t2 : full * r.per ≤ 2160 := by
        have := Int.mul_le_mul (show full ≤ 60 by omega) p2 (by omega) (by omega : (0:Int) ≤ 60)
        omega
      have t3 : 0 ≤ (full * r.per + loose) * button := Int.mul_nonneg (by omega) (by omega)
      have t4 : (full * r.per + loose) * button ≤ 110000 := by
        have := Int.mul_le_mul (show full * r.per + loose ≤ 2200 by omega) (by omega : button ≤ 50) (by omega) (by omega : (0:Int) ≤ 2200)
        omega
      have t5 : 0 ≤ full * r.card := Int.mul_nonneg n1 (by omega)
      have t6 : full * r.card ≤ 6000 := by
        have := Int.mul_le_mul (show full ≤ 60 by omega) m2 (by omega) (by omega : (0:Int) ≤ 60)
        omega
      go_enter Tryz.func81, Tryz.ntmps81
      go_wp2_with (go_at_call 63; refine (rin_any _ _ _ _).mono ?_; rintro e w' ⟨rfl, rfl⟩)
      all_goals go_ret
      all_goals refine ⟨?_, ((Ext.refl w).alloc _).alloc _⟩
      all_goals first | (simp [*]; done) | (simp [*]; intros; omega)
end Go.Proofs.YtpheidlocijdkaaGreatDoor
