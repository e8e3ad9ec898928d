/- The reference's List, Before; the law's stocked. -/
import Derived.Test.YtabkfohbdfpdpaaGreatDoorRefa
import Derived.Test.YtabkfohbdfpdpaaGreatDoorDealp8
namespace Go.Proofs.YtabkfohbdfpdpaaGreatDoor
open Go.RowKit


/-! ### List, Before; stocked -/
set_option maxRecDepth 100000 in
set_option maxHeartbeats 2000000 in
theorem rlist_any (lv tv dv : Value) (l : List Licence) (ts : List Take) (d : List Int) (w : World) (hl : RowOf licC w lv l) (ht : RowOf takC w tv ts) (hd : IntsAt w dv d) (hll : l.length ≤ 1000) :
    Calls Tryz.prog 40 #[lv, tv, dv] w fun e w' => e = .returned (.bool (decide (d.length = ts.length) && dealOkB l d)) ∧ Ext w w' := by
  obtain ⟨la, lc, rfl, _⟩ := RowAt.open hl
  obtain ⟨ta, tc, rfl, _⟩ := RowAt.open ht
  obtain ⟨da, dc, rfl, h1, h2, h3⟩ := hd.open
  have HH := Lib.hid h3
  clear hl ht hd h3
  go_enter Tryz.func40, Tryz.ntmps40
  go_wp2
  go_loopw [7] (fun i wr => ∃ k : Nat, k ≤ d.length ∧ i = .int .i64 k ∧ Hid ((d.take k).any (fun n => !inB n (-1) (l.length - 1)) = false) ∧ Ext w wr) (fun i _ => d.length - (intOf i).toNat)
  case atStart => exact ⟨0, Nat.zero_le _, rfl, by simp [Hid], Ext.refl _⟩
  case round =>
    obtain ⟨k, hk, rfl, hno, hx⟩ := hrel
    by_cases hlt : k < d.length
    · obtain ⟨b, o, n, rfl, hxk, hc⟩ := HH.out k hlt
      have d0 := hx.cell hc
      have x2 : decide ((k : Int) < (d.length : Int)) = true := by simpa using hlt
      have i1 : (0 : Int) ≤ (k : Int) := by omega
      have i2 : (k : Int) < (d.length : Int) := by omega
      clear hc
      cases hin : inB n (-1) (l.length - 1) with
      | true =>
        have HI := Lib.hid (fun w1 => hin ▸ rin_any n (-1) (l.length - 1) w1)
        have HN : Hid ((d.take (k + 1)).any (fun n => !inB n (-1) (l.length - 1)) = false) := by
          unfold Hid; rw [any_take_succ _ hxk.out, hno.out, hin]; rfl
        clear hin
        go_wp2_with (go_at_call 50; refine (HI.out _).mono ?_; rintro e w' ⟨rfl, rfl⟩)
        go_roundw
        case rel => exact ⟨k + 1, by omega, by go_num, HN, hx⟩
        case measure => simp [intOf]; omega
      | false =>
        have HI := Lib.hid (fun w1 => hin ▸ rin_any n (-1) (l.length - 1) w1)
        have HN : Hid ((decide (d.length = ts.length) && dealOkB l d) = false) := by unfold Hid dealOkB; rw [any_of_at (fun n => !inB n (-1) (l.length - 1)) hxk.out (by rw [hin]; rfl)]; simp
        clear hin
        go_wp2_with (go_at_call 50; refine (HI.out _).mono ?_; rintro e w' ⟨rfl, rfl⟩)
        go_ret
        exact ⟨by rw [HN.out] <;> rfl, hx⟩
    · have x2 : decide ((k : Int) < (d.length : Int)) = false := by simp; omega
      have HN : Hid ((decide (d.length = ts.length) && dealOkB l d) = ((d.length : Int) == (ts.length : Int))) := by
        have h := hno.out
        rw [List.take_of_length_le (by omega)] at h
        unfold Hid dealOkB; rw [h, Bool.not_false, Bool.and_true]
        rw [Bool.eq_iff_iff, decide_eq_true_eq, beq_iff_eq]; omega
      go_wp2
      go_ret
      exact ⟨by rw [HN.out] <;> rfl, hx⟩
theorem befI_drop {xs ys : List Int} {k : Nat} {x y : Int} (hx : xs[k]? = some x) (hy : ys[k]? = some y) : befI (xs.drop k) (ys.drop k) = if x ≠ y then decide (x < y) else befI (xs.drop (k + 1)) (ys.drop (k + 1)) := by
  rw [drop_at hx, drop_at hy]; rfl
set_option maxRecDepth 100000 in
set_option maxHeartbeats 2000000 in
theorem rbefore_any (av bv : Value) (xs ys : List Int) (w : World) (ha : IntsAt w av xs) (hb : IntsAt w bv ys) :
    Calls Tryz.prog 42 #[av, bv] w fun e w' => e = .returned (.bool (befI xs ys)) ∧ Ext w w' := by
  obtain ⟨aa, ac, rfl, a1, a2, a3⟩ := ha.open
  obtain ⟨ba, bc, rfl, b1, b2, b3⟩ := hb.open
  have HA := Lib.hid a3
  have HB := Lib.hid b3
  clear ha hb a3 b3
  go_enter Tryz.func42, Tryz.ntmps42
  go_wp2
  go_loopw [5] (fun i wr => ∃ k : Nat, k ≤ xs.length ∧ k ≤ ys.length ∧ i = .int .i64 k ∧ Hid (befI xs ys = befI (xs.drop k) (ys.drop k)) ∧ Ext w wr) (fun i _ => xs.length - (intOf i).toNat)
  case atStart => exact ⟨0, Nat.zero_le _, Nat.zero_le _, rfl, rfl, Ext.refl _⟩
  case round =>
    obtain ⟨k, hk, hk2, rfl, hno, hx⟩ := hrel
    by_cases hlt : k < xs.length
    · have x2 : decide ((k : Int) < (xs.length : Int)) = true := by simpa using hlt
      by_cases hlt2 : k < ys.length
      · have x3 : decide ((k : Int) < (ys.length : Int)) = true := by simpa using hlt2
        obtain ⟨b, o, x, rfl, hxk, c0⟩ := HA.out k hlt
        obtain ⟨b', o', y, rfl, hyk, c1⟩ := HB.out k hlt2
        have d0 := hx.cell c0
        have d1 := hx.cell c1
        have i1 : (0 : Int) ≤ (k : Int) := by omega
        have i2 : (k : Int) < (xs.length : Int) := by omega
        have i3 : (k : Int) < (ys.length : Int) := by omega
        have hbd := befI_drop hxk.out hyk.out
        clear c0 c1
        by_cases he : x = y
        · subst he
          rw [if_neg (by simp)] at hbd
          have HN := Lib.hid (hno.out.trans hbd)
          clear hbd
          go_wp2
          go_quiet (fail)
          go_wp2
          go_roundw
          case rel => exact ⟨k + 1, by omega, by omega, by go_num, HN.out, hx.drewN _⟩
          case measure => simp [intOf]; omega
        · have x4 : (x != y) = true := by simpa using he
          rw [if_pos he] at hbd
          have HN := Lib.hid (hno.out.trans hbd)
          clear hbd
          go_wp2
          go_quiet (fail)
          go_wp2
          go_quiet (fail)
          go_wp2
          go_ret
          exact ⟨by rw [HN.out] <;> rfl, (hx.drewN _).drewN _⟩
      · have x3 : decide ((k : Int) < (ys.length : Int)) = false := by simp; omega
        have HN : Hid (befI xs ys = decide (xs.length < ys.length)) := by
          have hd : ys.drop k = [] := List.drop_eq_nil_of_le (by omega)
          unfold Hid; rw [hno.out, hd, decide_eq_false (by omega)]; cases xs.drop k <;> rfl
        go_wp2
        go_ret
        exact ⟨by rw [HN.out] <;> rfl, hx⟩
    · have x2 : decide ((k : Int) < (xs.length : Int)) = false := by simp; omega
      have HN : Hid (befI xs ys = decide (xs.length < ys.length)) := by
        have hd0 : xs.drop k = [] := List.drop_eq_nil_of_le (by omega)
        unfold Hid; rw [hno.out, hd0]
        cases hd : ys.drop k with
        | nil => rw [decide_eq_false (by have := List.drop_eq_nil_iff.1 hd; omega)]; rfl
        | cons y t =>
          have hk3 : k < ys.length := by
            apply Decidable.byContradiction; intro h
            rw [List.drop_eq_nil_of_le (by omega)] at hd; cases hd
          rw [decide_eq_true (by omega)]; rfl
      go_wp2
      go_ret
      exact ⟨by rw [HN.out] <;> rfl, hx⟩
def stockedB (l : List Licence) (ts : List Take) : Bool := decide (l.length ≤ 6) && decide (ts.length ≤ 8)
theorem stocked_any (lv tv : Value) (l : List Licence) (ts : List Take) (w : World) (hl : RowOf licC w lv l) (ht : RowOf takC w tv ts) :
    Calls Tryz.prog 32 #[lv, tv] w fun e w' => e = .returned (.bool (stockedB l ts)) ∧ w = w' := by
  obtain ⟨la, lc, rfl, _⟩ := RowAt.open hl
  obtain ⟨ta, tc, rfl, _⟩ := RowAt.open ht
  have q1 : decide ((l.length : Int) ≤ 6) = decide (l.length ≤ 6) := decide_eq_decide.2 (by omega)
  have q2 : decide ((ts.length : Int) ≤ 8) = decide (ts.length ≤ 8) := decide_eq_decide.2 (by omega)
  unfold stockedB
  rw [← q1, ← q2]
  clear q1 q2 hl ht
  cases h1 : decide ((l.length : Int) ≤ 6)
  all_goals
    go_enter Tryz.func32, Tryz.ntmps32
    go_wp2
    go_ret
    exact ⟨rfl, rfl⟩
end Go.Proofs.YtabkfohbdfpdpaaGreatDoor
