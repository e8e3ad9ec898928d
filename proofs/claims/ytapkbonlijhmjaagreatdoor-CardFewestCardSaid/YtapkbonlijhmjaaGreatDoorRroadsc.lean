/- The reference's Roads. -/
import Derived.Test.YtapkbonlijhmjaaGreatDoorRroadsb
namespace Go.Proofs.YtapkbonlijhmjaaGreatDoor
open Go.RowKit

theorem roads_no_load {c : Roads} {k : Nat} {x : Int} (hx : c.loads[k]? = some x) (hq : inB x 0 1000 = false) : isRoadsB c = false := by
  have := any_of_at bad1000 hx (by unfold bad1000; rw [hq]; rfl)
  unfold isRoadsB; rw [this]; simp
theorem roads_no_row {c : Roads} {k : Nat} {l : List Int} (hx : c.far[k]? = some l) (hq : badRow c.loads.length l = true) : isRoadsB c = false := by
  have := any_of_at (badRow c.loads.length) hx hq
  unfold isRoadsB; rw [this]; simp
theorem any_none_succ {α : Type} (p : α → Bool) {xs : List α} {k : Nat} {x : α} (h : (xs.take k).any p = false) (hx : xs[k]? = some x) (hp : p x = false) : (xs.take (k + 1)).any p = false := by
  rw [any_take_succ p hx, h, hp]; rfl
set_option maxRecDepth 100000 in
set_option maxHeartbeats 8000000 in
theorem rroads_any (v : Value) (c : Roads) (w : World) (hc : RoadsAt w v c) (hL : c.loads.length ≤ 1000) :
    Calls Tryz.prog 14 #[v] w fun e w' => e = .returned (.bool (isRoadsB c)) ∧ Ext w w' := by
  obtain ⟨lv, fv, rfl, hll, hff⟩ := hc
  obtain ⟨la, lk, rfl, l1, l2, l3⟩ := hll.open
  obtain ⟨fa, fk, rfl, f1, f2, f3⟩ := hff.open
  have hx0 : Ext w (w.alloc (boxC c la fa lk fk)) := (Ext.refl w).alloc _
  have HX0 := Lib.hid hx0
  obtain ⟨c0, c1, c2⟩ := boxC_cells (World.alloc_heap_new w (boxC c la fa lk fk))
  have F3 := Lib.hid f3
  have L3 := Lib.hid l3
  have hmix : Tryz.prog.follows .mixedOrders = true := by kernel_rfl
  clear hll hff f3 l3 hx0
  go_enter Tryz.func14, Tryz.ntmps14
  go_wp2
  have HW : Hid (w.alloc (boxC c la fa lk fk) = w.alloc (boxC c la fa lk fk)) := Lib.hid rfl
  generalize hW : w.alloc (boxC c la fa lk fk) = W at *
  go_loopw [3] (fun i wr => ∃ k : Nat, k ≤ c.loads.length ∧ i = .int .i64 k ∧ Hid ((c.loads.take k).any bad1000 = false) ∧ W = wr) (fun i _ => c.loads.length - (intOf i).toNat)
  case atStart => exact ⟨0, Nat.zero_le _, rfl, by simp [Hid], rfl⟩
  case round =>
    obtain ⟨k, hk, rfl, hno, rfl⟩ := hrel
    by_cases hlt : k < c.loads.length
    · obtain ⟨b, o, n, rfl, hnk, hcn⟩ := L3.out k hlt
      have d := HX0.out.cell hcn
      have x1 : decide ((k : Int) < (c.loads.length : Int)) = true := by simpa using hlt
      have x4 : (k : Int) < (c.loads.length : Int) := by omega
      clear hcn
      cases hq : inB n 0 1000 with
      | false =>
        have HN := Lib.hid (roads_no_load hnk.out hq)
        have HQ := Lib.hid (fun w1 => hq ▸ rin_any n 0 1000 w1)
        clear hq
        go_wp2_with (go_at_call 60; refine (HQ.out _).mono ?_; rintro e w' ⟨rfl, rfl⟩)
        go_ret
        exact ⟨by rw [HN.out] <;> rfl, HX0.out⟩
      | true =>
        have HN := Lib.hid (any_none_succ bad1000 hno.out hnk.out (by unfold bad1000; rw [hq]; rfl))
        have HQ := Lib.hid (fun w1 => hq ▸ rin_any n 0 1000 w1)
        clear hq
        go_wp2_with (go_at_call 60; refine (HQ.out _).mono ?_; rintro e w' ⟨rfl, rfl⟩)
        go_roundw
        case rel => exact ⟨k + 1, by omega, by go_num, HN, by trivial⟩
        case measure => simp [intOf]; omega
    · have HLO : Hid (c.loads.any bad1000 = false) := by
        have h := hno.out
        rw [List.take_of_length_le (by omega)] at h
        exact h
      have hke : k = c.loads.length := by omega
      subst hke
      have x1 : decide ((c.loads.length : Int) < (c.loads.length : Int)) = false := by simp
      go_wp2
      clear x1
      go_loopw [4] (fun i wr => ∃ k : Nat, k ≤ c.far.length ∧ i = .int .i64 k ∧ Hid ((c.far.take k).any (badRow c.loads.length) = false) ∧ Ext W wr) (fun i _ => c.far.length - (intOf i).toNat)
      case atStart => exact ⟨0, Nat.zero_le _, rfl, by simp [Hid], Ext.refl _⟩
      case round =>
        obtain ⟨k, hk, rfl, hnr, hxr⟩ := hrel
        have e0 := hxr.cell c0
        have e1 := hxr.cell c1
        have e2 := hxr.cell c2
        have HXW := Lib.hid (HX0.out.trans hxr)
        clear c0 c1 c2
        by_cases hlt : k < c.far.length
        · obtain ⟨b, o, y, ys, rfl, hyk, hcy, hys⟩ := F3.out k hlt
          obtain ⟨a3, k3, rfl, g1, g2, g3⟩ := hys.open
          have G3 := Lib.hid g3
          have d := HXW.out.cell hcy
          have x1 : decide ((k : Int) < (c.far.length : Int)) = true := by simpa using hlt
          have x4 : (k : Int) < (c.far.length : Int) := by omega
          have x7 : (0 : Int) ≤ (k : Int) := by omega
          clear hcy hys g3
          go_wp2
          go_loopw [5] (fun i wq => ∃ t : Nat, t ≤ ys.length ∧ i = .int .i64 t ∧ Hid ((ys.take t).any bad1000 = false) ∧ wr = wq) (fun i _ => ys.length - (intOf i).toNat)
          case atStart => exact ⟨0, Nat.zero_le _, rfl, by simp [Hid], rfl⟩
          case round =>
            obtain ⟨t, ht, rfl, hny, rfl⟩ := hrel
            by_cases hlt2 : t < ys.length
            · obtain ⟨b3, o3, z, rfl, hzk, hcz⟩ := G3.out t hlt2
              have d3 := HXW.out.cell hcz
              have y1 : decide ((t : Int) < (ys.length : Int)) = true := by simpa using hlt2
              have y4 : (t : Int) < (ys.length : Int) := by omega
              have y7 : (0 : Int) ≤ (t : Int) := by omega
              clear hcz
              cases hq : inB z 0 1000 with
              | false =>
                have HN := Lib.hid (roads_no_row hyk.out (by unfold badRow; rw [any_of_at bad1000 hzk.out (by unfold bad1000; rw [hq]; rfl), Bool.or_true]))
                have HQ := Lib.hid (fun w1 => hq ▸ rin_any z 0 1000 w1)
                clear hq
                go_wp2_with (go_at_call 60; refine (HQ.out _).mono ?_; rintro e w' ⟨rfl, rfl⟩)
                go_ret
                exact ⟨by rw [HN.out] <;> rfl, HXW.out⟩
              | true =>
                have HN := Lib.hid (any_none_succ bad1000 hny.out hzk.out (by unfold bad1000; rw [hq]; rfl))
                have HQ := Lib.hid (fun w1 => hq ▸ rin_any z 0 1000 w1)
                clear hq
                go_wp2_with (go_at_call 60; refine (HQ.out _).mono ?_; rintro e w' ⟨rfl, rfl⟩)
                go_roundw
                case rel => exact ⟨t + 1, by omega, by go_num, HN, by trivial⟩
                case measure => simp [intOf]; omega
            · have hte : t = ys.length := by omega
              have HYN : Hid (ys.any bad1000 = false) := by
                have h := hny.out
                rw [List.take_of_length_le (by omega)] at h
                exact h
              subst hte
              have y1 : decide ((ys.length : Int) < (ys.length : Int)) = false := by simp
              have E1 : IntKind.i64.wrap ((c.loads.length : Int) + 1) = (c.loads.length : Int) + 1 := IntWalk.i64_in _ (by omega)
              by_cases hq : ys.length = c.loads.length + 1
              · have HN := Lib.hid (any_none_succ (badRow c.loads.length) hnr.out hyk.out (by unfold badRow; rw [HYN.out, Bool.or_false, decide_eq_false_iff_not]; exact fun h => h hq))
                have q1 : ((ys.length : Int) != (c.loads.length : Int) + 1) = false := by simp; omega
                clear hq
                go_upto_region 14 with fail
                go_quiet (fail)
                go_wp2
                refine ⟨⟨k + 1, by omega, by go_num, HN, hxr.drewN _⟩, by simp [intOf]; omega⟩
              · have HN := Lib.hid (roads_no_row hyk.out (by unfold badRow; rw [decide_eq_true hq, Bool.true_or]))
                have q1 : ((ys.length : Int) != (c.loads.length : Int) + 1) = true := by rw [bne_iff_ne]; omega
                clear hq
                go_upto_region 14 with fail
                go_quiet (fail)
                go_wp2
                go_ret
                exact ⟨by rw [HN.out] <;> rfl, HXW.out.drewN _⟩
        · have HFR : Hid (c.far.any (badRow c.loads.length) = false) := by
            have h := hnr.out
            rw [List.take_of_length_le (by omega)] at h
            exact h
          have hke : k = c.far.length := by omega
          subst hke
          have x1 : decide ((c.far.length : Int) < (c.far.length : Int)) = false := by simp
          have E1 : IntKind.i64.wrap ((c.loads.length : Int) + 1) = (c.loads.length : Int) + 1 := IntWalk.i64_in _ (by omega)
          have HS : Hid (isRoadsB c = (inB c.loads.length 1 5 && inB c.bears 0 1000 && decide (c.far.length = c.loads.length + 1))) := by
            unfold Hid isRoadsB; rw [HLO.out, HFR.out]; simp
          cases q1 : inB c.loads.length 1 5 with
          | false =>
            rw [q1] at HS
            have HQ := Lib.hid (fun w1 => q1 ▸ rin_any c.loads.length 1 5 w1)
            clear q1
            go_wp2_with (go_at_call 60; refine (HQ.out _).mono ?_; rintro e w' ⟨rfl, rfl⟩)
            go_ret
            exact ⟨by rw [HS.out] <;> rfl, HXW.out⟩
          | true =>
            rw [q1] at HS
            have HQ := Lib.hid (fun w1 => q1 ▸ rin_any c.loads.length 1 5 w1)
            clear q1
            cases q2 : inB c.bears 0 1000 with
            | false =>
              rw [q2] at HS
              have HQ2 := Lib.hid (fun w1 => q2 ▸ rin_any c.bears 0 1000 w1)
              clear q2
              have tok1 : True := trivial
              go_wp2_with (first
                | (go_at_call 60; have _t := tok1; refine (HQ.out _).mono ?_; rintro e w' ⟨rfl, rfl⟩; clear tok1 _t)
                | (go_at_call 60; refine (HQ2.out _).mono ?_; rintro e w' ⟨rfl, rfl⟩))
              go_ret
              exact ⟨by rw [HS.out] <;> rfl, HXW.out⟩
            | true =>
              rw [q2] at HS
              have HQ2 := Lib.hid (fun w1 => q2 ▸ rin_any c.bears 0 1000 w1)
              clear q2
              have tok1 : True := trivial
              by_cases q3 : c.far.length = c.loads.length + 1
              · have t3 : ((c.far.length : Int) == (c.loads.length : Int) + 1) = true := by rw [beq_iff_eq]; omega
                rw [decide_eq_true q3] at HS
                clear q3
                go_wp2_with (first
                  | (go_at_call 60; have _t := tok1; refine (HQ.out _).mono ?_; rintro e w' ⟨rfl, rfl⟩; clear tok1 _t)
                  | (go_at_call 60; refine (HQ2.out _).mono ?_; rintro e w' ⟨rfl, rfl⟩))
                go_ret
                exact ⟨by rw [HS.out] <;> rfl, HXW.out⟩
              · have t3 : ((c.far.length : Int) == (c.loads.length : Int) + 1) = false := by rw [beq_eq_false_iff_ne]; omega
                rw [decide_eq_false q3] at HS
                clear q3
                go_wp2_with (first
                  | (go_at_call 60; have _t := tok1; refine (HQ.out _).mono ?_; rintro e w' ⟨rfl, rfl⟩; clear tok1 _t)
                  | (go_at_call 60; refine (HQ2.out _).mono ?_; rintro e w' ⟨rfl, rfl⟩))
                go_ret
                exact ⟨by rw [HS.out] <;> rfl, HXW.out⟩
end Go.Proofs.YtapkbonlijhmjaaGreatDoor
