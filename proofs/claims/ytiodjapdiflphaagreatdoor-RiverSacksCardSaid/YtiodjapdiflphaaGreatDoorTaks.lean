/- areTakes. -/
import Derived.Test.YtiodjapdiflphaaGreatDoorLics
namespace Go.Proofs.YtiodjapdiflphaaGreatDoor
open Go.RowKit
set_option maxRecDepth 100000 in
set_option maxHeartbeats 4000000 in
theorem tak1_any (b : Book) (rv : Value) (x : Take) (bb : Nat) (w : World) (hB : isBookB b = true) (hr : RiversAt w rv b.rivers) (s0 : w.cell? ⟨bb, 0, none⟩ = some (.int .i64 b.years)) (s1 : w.cell? ⟨bb, 1, none⟩ = some rv) :
  Calls Tryz.prog 103 #[.agg #[.int .i64 x.river, .int .i64 x.low, .int .i64 x.high, .int .i64 x.many], .pointer (some ⟨bb, 0, none⟩)] w fun e w' => e = .returned (.bool (badTake b x)) ∧ Ext w w' := by
 have HR := Lib.hid (fun w1 (hx : Ext w w1) => isRiver_anyB rv b x.river w1 ⟨rv, rfl, hr.ext hx⟩)
 obtain ⟨ra, rc, rfl, _⟩ := hr.open
 have HY := Lib.hid (fun n w1 => isYear_anyB (.slice ra b.rivers.length rc) b n w1 ⟨_, _, _, rfl⟩ hB)
 have hx0 : Ext w (w.alloc (.cells #[.int .i64 x.river, .int .i64 x.low, .int .i64 x.high, .int .i64 x.many] 139)) := (Ext.refl w).alloc _
 have HX0 := Lib.hid hx0
 have HC := Lib.hid (fun W (h : Ext (w.alloc (.cells #[.int .i64 x.river, .int .i64 x.low, .int .i64 x.high, .int .i64 x.many] 139)) W) => (⟨(hx0.trans h).cell s0, (hx0.trans h).cell s1, h.cell (by go_simp), h.cell (by go_simp), h.cell (by go_simp), h.cell (by go_simp)⟩ : W.cell? ⟨bb, 0, none⟩ = some (.int .i64 b.years) ∧ W.cell? ⟨bb, 1, none⟩ = some (.slice ra b.rivers.length rc) ∧ W.cell? ⟨w.heap.size, 0, none⟩ = some (.int .i64 x.river) ∧ W.cell? ⟨w.heap.size, 1, none⟩ = some (.int .i64 x.low) ∧ W.cell? ⟨w.heap.size, 2, none⟩ = some (.int .i64 x.high) ∧ W.cell? ⟨w.heap.size, 3, none⟩ = some (.int .i64 x.many)))
 have hy := Ext.refl (w.alloc (.cells #[.int .i64 x.river, .int .i64 x.low, .int .i64 x.high, .int .i64 x.many] 139))
 obtain ⟨z0, z1, z2, z3, z4, z5⟩ := HC.out _ hy
 have hbad : badTake b x = (!isRiverB b x.river || !isYearB b x.low || !isYearB b x.high || decide (x.high < x.low) || !inB x.many 0 100) := rfl
 clear hr s0 s1 hx0 hB
 generalize hv : badTake b x = v at hbad ⊢
 clear hv
 have R1 := Lib.hid (fun w1 hx => HR.out w1 hx)
 have Y1 := Lib.hid (fun w1 => HY.out x.low w1)
 have Y2 := Lib.hid (fun w1 => HY.out x.high w1)
 have I1 := Lib.hid (fun w1 => in_any x.many 0 100 w1)
 clear HR HY
 cases h1 : isRiverB b x.river with
 | false =>
  rw [h1] at R1
  have hvv := hbad
  rw [h1] at hvv
  replace hvv := hvv.trans (show _ = true from rfl)
  have HVV := Lib.hid hvv
  clear hvv hbad h1
  go_enter Tryz.func103, Tryz.ntmps103
  go_wp2_with (first | (go_at_call 60; refine (R1.out _ (HX0.out.trans hy)).mono ?_; rintro e w1 ⟨rfl, hx1⟩; replace hy := hy.trans hx1; clear hx1 z0 z1 z2 z3 z4 z5; obtain ⟨z0, z1, z2, z3, z4, z5⟩ := HC.out _ hy))
  go_ret
  exact ⟨by rw [HVV.out]; rfl, HX0.out.trans hy⟩
 | true =>
  rw [h1] at R1
  cases h2 : isYearB b x.low with
  | false =>
   rw [h2] at Y1
   have hvv := hbad
   rw [h1, h2] at hvv
   replace hvv := hvv.trans (show _ = true from rfl)
   have HVV := Lib.hid hvv
   clear hvv hbad h1 h2
   go_enter Tryz.func103, Tryz.ntmps103
   go_wp2_with (first | (go_at_call 60; refine (R1.out _ (HX0.out.trans hy)).mono ?_; rintro e w1 ⟨rfl, hx1⟩; replace hy := hy.trans hx1; clear hx1 z0 z1 z2 z3 z4 z5; obtain ⟨z0, z1, z2, z3, z4, z5⟩ := HC.out _ hy) | (go_at_call 61; refine (Y1.out _).mono ?_; rintro e w1 ⟨rfl, hx1⟩; replace hy := hy.trans hx1; clear hx1 z0 z1 z2 z3 z4 z5; obtain ⟨z0, z1, z2, z3, z4, z5⟩ := HC.out _ hy))
   go_ret
   exact ⟨by rw [HVV.out]; rfl, HX0.out.trans hy⟩
  | true =>
   rw [h2] at Y1
   cases h3 : isYearB b x.high with
   | false =>
    rw [h3] at Y2
    have hvv := hbad
    rw [h1, h2, h3] at hvv
    replace hvv := hvv.trans (show _ = true from rfl)
    have HVV := Lib.hid hvv
    clear hvv hbad h1 h2 h3
    go_enter Tryz.func103, Tryz.ntmps103
    go_wp2_with (first | (go_at_call 60; refine (R1.out _ (HX0.out.trans hy)).mono ?_; rintro e w1 ⟨rfl, hx1⟩; replace hy := hy.trans hx1; clear hx1 z0 z1 z2 z3 z4 z5; obtain ⟨z0, z1, z2, z3, z4, z5⟩ := HC.out _ hy) | (go_at_call 61; refine (Y1.out _).mono ?_; rintro e w1 ⟨rfl, hx1⟩; replace hy := hy.trans hx1; clear hx1 z0 z1 z2 z3 z4 z5; obtain ⟨z0, z1, z2, z3, z4, z5⟩ := HC.out _ hy) | (go_at_call 61; refine (Y2.out _).mono ?_; rintro e w1 ⟨rfl, hx1⟩; replace hy := hy.trans hx1; clear hx1 z0 z1 z2 z3 z4 z5; obtain ⟨z0, z1, z2, z3, z4, z5⟩ := HC.out _ hy))
    go_ret
    exact ⟨by rw [HVV.out]; rfl, HX0.out.trans hy⟩
   | true =>
    rw [h3] at Y2
    cases h4 : decide (x.high < x.low) with
    | true =>
     have hvv := hbad
     rw [h1, h2, h3, h4] at hvv
     replace hvv := hvv.trans (show _ = true from rfl)
     have HVV := Lib.hid hvv
     clear hvv hbad h1 h2 h3
     go_enter Tryz.func103, Tryz.ntmps103
     go_wp2_with (first | (go_at_call 60; refine (R1.out _ (HX0.out.trans hy)).mono ?_; rintro e w1 ⟨rfl, hx1⟩; replace hy := hy.trans hx1; clear hx1 z0 z1 z2 z3 z4 z5; obtain ⟨z0, z1, z2, z3, z4, z5⟩ := HC.out _ hy) | (go_at_call 61; refine (Y1.out _).mono ?_; rintro e w1 ⟨rfl, hx1⟩; replace hy := hy.trans hx1; clear hx1 z0 z1 z2 z3 z4 z5; obtain ⟨z0, z1, z2, z3, z4, z5⟩ := HC.out _ hy) | (go_at_call 61; refine (Y2.out _).mono ?_; rintro e w1 ⟨rfl, hx1⟩; replace hy := hy.trans hx1; clear hx1 z0 z1 z2 z3 z4 z5; obtain ⟨z0, z1, z2, z3, z4, z5⟩ := HC.out _ hy))
     go_ret
     exact ⟨by rw [HVV.out]; rfl, HX0.out.trans hy⟩
    | false =>
     cases h5 : inB x.many 0 100 with
     | false =>
      rw [h5] at I1
      have hvv := hbad
      rw [h1, h2, h3, h4, h5] at hvv
      replace hvv := hvv.trans (show _ = true from rfl)
      have HVV := Lib.hid hvv
      clear hvv hbad h1 h2 h3 h5
      go_enter Tryz.func103, Tryz.ntmps103
      go_wp2_with (first | (go_at_call 60; refine (R1.out _ (HX0.out.trans hy)).mono ?_; rintro e w1 ⟨rfl, hx1⟩; replace hy := hy.trans hx1; clear hx1 z0 z1 z2 z3 z4 z5; obtain ⟨z0, z1, z2, z3, z4, z5⟩ := HC.out _ hy) | (go_at_call 61; refine (Y1.out _).mono ?_; rintro e w1 ⟨rfl, hx1⟩; replace hy := hy.trans hx1; clear hx1 z0 z1 z2 z3 z4 z5; obtain ⟨z0, z1, z2, z3, z4, z5⟩ := HC.out _ hy) | (go_at_call 61; refine (Y2.out _).mono ?_; rintro e w1 ⟨rfl, hx1⟩; replace hy := hy.trans hx1; clear hx1 z0 z1 z2 z3 z4 z5; obtain ⟨z0, z1, z2, z3, z4, z5⟩ := HC.out _ hy) | (go_at_call 36; refine (I1.out _).mono ?_; rintro e w' ⟨rfl, rfl⟩))
      go_ret
      exact ⟨by rw [HVV.out]; rfl, HX0.out.trans hy⟩
     | true =>
      rw [h5] at I1
      have hvv := hbad
      rw [h1, h2, h3, h4, h5] at hvv
      replace hvv := hvv.trans (show _ = false from rfl)
      have HVV := Lib.hid hvv
      clear hvv hbad h1 h2 h3 h5
      go_enter Tryz.func103, Tryz.ntmps103
      go_wp2_with (first | (go_at_call 60; refine (R1.out _ (HX0.out.trans hy)).mono ?_; rintro e w1 ⟨rfl, hx1⟩; replace hy := hy.trans hx1; clear hx1 z0 z1 z2 z3 z4 z5; obtain ⟨z0, z1, z2, z3, z4, z5⟩ := HC.out _ hy) | (go_at_call 61; refine (Y1.out _).mono ?_; rintro e w1 ⟨rfl, hx1⟩; replace hy := hy.trans hx1; clear hx1 z0 z1 z2 z3 z4 z5; obtain ⟨z0, z1, z2, z3, z4, z5⟩ := HC.out _ hy) | (go_at_call 61; refine (Y2.out _).mono ?_; rintro e w1 ⟨rfl, hx1⟩; replace hy := hy.trans hx1; clear hx1 z0 z1 z2 z3 z4 z5; obtain ⟨z0, z1, z2, z3, z4, z5⟩ := HC.out _ hy) | (go_at_call 36; refine (I1.out _).mono ?_; rintro e w' ⟨rfl, rfl⟩))
      go_ret
      exact ⟨by rw [HVV.out]; rfl, HX0.out.trans hy⟩
theorem enters_tak1 : ∀ args w, (callFunc 103 args).run Tryz.prog w = .ok (.enter 103 args) w := enters_of Tryz.func103 (by kernel_rfl) rfl
set_option maxRecDepth 100000 in
set_option maxHeartbeats 2000000 in
theorem areTakes_any (b : Book) (rv v : Value) (l : List Take) (w : World) (hB : isBookB b = true) (hr : RiversAt w rv b.rivers) (hv : RowOf takC w v l) :
  Calls Tryz.prog 65 #[.agg #[.int .i64 b.years, rv], v] w fun e w' => e = .returned (.bool (areTakesB b l)) ∧ Ext w w' := by
 have hx0 : Ext w (w.alloc (.cells #[.int .i64 b.years, rv] 24)) := (Ext.refl w).alloc _
 have hb0 : (w.alloc (.cells #[.int .i64 b.years, rv] 24)).cell? ⟨w.heap.size, 0, none⟩ = some (.int .i64 b.years) ∧ (w.alloc (.cells #[.int .i64 b.years, rv] 24)).cell? ⟨w.heap.size, 1, none⟩ = some rv := by
  obtain ⟨_, _, rfl, _⟩ := hr.open
  exact ⟨by go_simp, by go_simp⟩
 have HCF := Lib.hid (containsFuncK (f := takC) (fun x : Take => .int .i64 x.river) (fun x => .int .i64 x.low) (fun x => .int .i64 x.high) (fun x => .int .i64 x.many) (fun _ => rfl) v 103 #[.pointer (some ⟨w.heap.size, 0, none⟩)] (badTake b) l _ (RowOf.ext hv hx0)
  (fun x _ w1 hx => tak1_any b rv x w.heap.size w1 hB (hr.ext (hx0.trans hx)) (hx.cell hb0.1) (hx.cell hb0.2)) enters_tak1)
 have HX0 := Lib.hid hx0
 obtain ⟨ra, rc, rfl, _⟩ := hr.open
 obtain ⟨la, lc, rfl, l1, l2, _⟩ := RowAt.open hv
 have hdef : areTakesB b l = (decide (l.length ≤ 6) && !l.any (badTake b)) := rfl
 generalize l.any (badTake b) = q at HCF hdef
 clear hv hr hx0 hb0 hB
 by_cases hl : l.length ≤ 6
 ·have t1 : decide ((l.length : Int) ≤ 6) = true := by simp; omega
  rw [decide_eq_true hl, Bool.true_and] at hdef
  rw [hdef]
  clear hdef hl
  go_enter Tryz.func65, Tryz.ntmps65
  go_wp2_with (go_at_call 102; refine HCF.out.mono ?_; rintro e w1 ⟨rfl, hx1⟩)
  go_ret
  exact ⟨rfl, HX0.out.trans hx1⟩
 ·have t1 : decide ((l.length : Int) ≤ 6) = false := by simp; omega
  rw [decide_eq_false hl, Bool.false_and] at hdef
  rw [hdef]
  clear hdef hl
  go_enter Tryz.func65, Tryz.ntmps65
  go_wp2
  go_ret
  exact ⟨rfl, HX0.out⟩
end Go.Proofs.YtiodjapdiflphaaGreatDoor
