/- The law CardPlans: the walk. -/
import Derived.Test.YtapkbonlijhmjaaGreatDoorRplan
import Derived.Test.YtapkbonlijhmjaaGreatDoorFewp
import Derived.Test.YtapkbonlijhmjaaGreatDoorFilld
import Derived.Test.YtapkbonlijhmjaaGreatDoorOpened
namespace Go.Proofs.YtapkbonlijhmjaaGreatDoor
open Go.RowKit

set_option maxRecDepth 100000 in
set_option maxHeartbeats 8000000 in
theorem plans_e0 (v : Value) (c : Roads) (w : World) (hR : RoadsAt w v c) (ht : TabOk w) (hs : shortB c = false) : Calls Tryz.prog 3 #[v] w (TrueP w) := by
  have hR' := hR
  obtain ⟨lv, fv, rfl, hll, hff⟩ := hR
  obtain ⟨la, lk, rfl, l1, l2, _⟩ := hll.open
  obtain ⟨fa, fk, rfl, f1, f2, _⟩ := hff.open
  have hx0 : Ext w (w.alloc (boxC c la fa lk fk)) := (Ext.refl w).alloc _
  have HX0 := Lib.hid hx0
  have HBC := Lib.hid (fun W (h : Ext (w.alloc (boxC c la fa lk fk)) W) => boxC_cells ((h.block (by simp)).trans (World.alloc_heap_new w (boxC c la fa lk fk))))
  have HSH := Lib.hid (fun w1 (hx : Ext w w1) => short_any _ c w1 (hR'.ext hx))
  have HPL := Lib.hid (fun w1 (hx : Ext w w1) => plan_any _ c w1 (hR'.ext hx))
  have HL := Lib.hid (fun w1 (hx : Ext w w1) => lknown_any w1 (ht.ext hx))
  rw [hs] at HSH
  have hmix : Tryz.prog.follows .mixedOrders = true := by kernel_rfl
  clear hR' hll hff hx0 ht hs HPL
  go_enter Tryz.func3, Tryz.ntmps3
  obtain ⟨z0, z1, z2⟩ := HBC.out _ (Ext.refl _)
  go_wp2_with (first
    | (go_at_call 11; refine (HSH.out _ HX0.out).mono ?_; rintro e w1 ⟨rfl, hx1⟩; have hy1 := Ext.trans (Ext.refl (w.alloc (boxC c la fa lk fk))) hx1; clear z0 z1 z2; obtain ⟨z0, z1, z2⟩ := HBC.out _ hy1)
    | (go_at_call 12; refine (HL.out _ (HX0.out.trans hy1)).mono ?_; rintro e wk ⟨rfl, hxk⟩))
  go_ret
  exact ⟨rfl, (HX0.out.trans hy1).trans hxk⟩
set_option maxRecDepth 100000 in
set_option maxHeartbeats 8000000 in
theorem plans_e1 (v : Value) (c : Roads) (w : World) (hR : RoadsAt w v c) (ht : TabOk w) (hs : shortB c = true) (hl0 : c.loads.length ≤ 1000) (hr : isRoadsB c = false) : Calls Tryz.prog 3 #[v] w (TrueP w) := by
  have hR' := hR
  obtain ⟨lv, fv, rfl, hll, hff⟩ := hR
  obtain ⟨la, lk, rfl, l1, l2, _⟩ := hll.open
  obtain ⟨fa, fk, rfl, f1, f2, _⟩ := hff.open
  have hx0 : Ext w (w.alloc (boxC c la fa lk fk)) := (Ext.refl w).alloc _
  have HX0 := Lib.hid hx0
  have HBC := Lib.hid (fun W (h : Ext (w.alloc (boxC c la fa lk fk)) W) => boxC_cells ((h.block (by simp)).trans (World.alloc_heap_new w (boxC c la fa lk fk))))
  have HSH := Lib.hid (fun w1 (hx : Ext w w1) => short_any _ c w1 (hR'.ext hx))
  have HPL := Lib.hid (fun w1 (hx : Ext w w1) => plan_any _ c w1 (hR'.ext hx))
  have HL := Lib.hid (fun w1 (hx : Ext w w1) => lknown_any w1 (ht.ext hx))
  have HRO := Lib.hid (fun w1 (hx : Ext w w1) => rroads_any _ c w1 (hR'.ext hx) hl0)
  rw [hs] at HSH
  rw [hr] at HRO
  have HPL := Lib.hid (fun w1 (hx : Ext w w1) => (HPL.out w1 hx).mono (R' := fun e w' => e = .returned (.tuple #[.slice none 0 0, .int .i64 0, .int .i64 2]) ∧ Ext w1 w') (fun e w' h => by
    obtain ⟨nv, d, err, rfl, hx, hq⟩ := h
    rw [if_pos hr] at hq
    obtain ⟨rfl, rfl, rfl⟩ := hq
    exact ⟨rfl, hx⟩))
  have hmix : Tryz.prog.follows .mixedOrders = true := by kernel_rfl
  clear hR' hll hff hx0 ht hs hr hl0
  go_enter Tryz.func3, Tryz.ntmps3
  obtain ⟨z0, z1, z2⟩ := HBC.out _ (Ext.refl _)
  go_wp2_with (first
    | (go_at_call 11; refine (HSH.out _ HX0.out).mono ?_; rintro e w1 ⟨rfl, hx1⟩; have hy1 := Ext.trans (Ext.refl (w.alloc (boxC c la fa lk fk))) hx1; clear z0 z1 z2; obtain ⟨z0, z1, z2⟩ := HBC.out _ hy1)
    | (go_at_call 13; refine (HPL.out _ (HX0.out.trans hy1)).mono ?_; rintro e w2 ⟨rfl, hx2⟩; have hy2 := Ext.trans hy1 hx2; clear z0 z1 z2; obtain ⟨z0, z1, z2⟩ := HBC.out _ hy2)
    | (go_at_call 14; refine (HRO.out _ (HX0.out.trans hy2)).mono ?_; rintro e w3 ⟨rfl, hx3⟩; have hy3 := Ext.trans hy2 hx3; clear z0 z1 z2; obtain ⟨z0, z1, z2⟩ := HBC.out _ hy3)
    | (go_at_call 12; refine (HL.out _ (HX0.out.trans hy3)).mono ?_; rintro e wk ⟨rfl, hxk⟩))
  go_ret
  exact ⟨rfl, (HX0.out.trans hy3).trans hxk⟩
set_option maxRecDepth 100000 in
set_option maxHeartbeats 8000000 in
theorem plans_e2 (v : Value) (c : Roads) (w : World) (hR : RoadsAt w v c) (ht : TabOk w) (hs : shortB c = true) (hl0 : c.loads.length ≤ 1000) (hr : isRoadsB c = true) (hh : c.bears < maxL c.loads) (hbp : bestPlan c = none) : Calls Tryz.prog 3 #[v] w (TrueP w) := by
  have hR' := hR
  obtain ⟨lv, fv, rfl, hll, hff⟩ := hR
  obtain ⟨la, lk, rfl, l1, l2, _⟩ := hll.open
  obtain ⟨fa, fk, rfl, f1, f2, _⟩ := hff.open
  have hx0 : Ext w (w.alloc (boxC c la fa lk fk)) := (Ext.refl w).alloc _
  have HX0 := Lib.hid hx0
  have HBC := Lib.hid (fun W (h : Ext (w.alloc (boxC c la fa lk fk)) W) => boxC_cells ((h.block (by simp)).trans (World.alloc_heap_new w (boxC c la fa lk fk))))
  have HSH := Lib.hid (fun w1 (hx : Ext w w1) => short_any _ c w1 (hR'.ext hx))
  have HPL := Lib.hid (fun w1 (hx : Ext w w1) => plan_any _ c w1 (hR'.ext hx))
  have HL := Lib.hid (fun w1 (hx : Ext w w1) => lknown_any w1 (ht.ext hx))
  have HRO := Lib.hid (fun w1 (hx : Ext w w1) => rroads_any _ c w1 (hR'.ext hx) hl0)
  rw [hs] at HSH
  rw [hr] at HRO
  have HPL := Lib.hid (fun w1 (hx : Ext w w1) => (HPL.out w1 hx).mono (R' := fun e w' => e = .returned (.tuple #[.slice none 0 0, .int .i64 0, .int .i64 5]) ∧ Ext w1 w') (fun e w' h => by
    obtain ⟨nv, d, err, rfl, hx, hq⟩ := h
    rw [if_neg (by rw [hr]; simp), if_pos hh] at hq
    obtain ⟨rfl, rfl, rfl⟩ := hq
    exact ⟨rfl, hx⟩))
  have HRP := Lib.hid (fun w1 (hx : Ext w w1) => (rplan_any _ c w1 (roadsB_of hr) (roadsB_of hr).n2 (hR'.ext hx)).mono (R' := fun e w' => ∃ pa pc, e = .returned (.tuple #[.slice pa 0 pc, .bool false]) ∧ Ext w1 w') (fun e w' h => by
    obtain ⟨pv, rfl, hx, hp⟩ := h
    rw [hbp] at hp ⊢
    obtain ⟨pa, pc, rfl, _⟩ := hp.open
    exact ⟨pa, pc, rfl, hx⟩))
  have hmix : Tryz.prog.follows .mixedOrders = true := by kernel_rfl
  clear hR' hll hff hx0 ht hs hr hl0 hh hbp
  go_enter Tryz.func3, Tryz.ntmps3
  obtain ⟨z0, z1, z2⟩ := HBC.out _ (Ext.refl _)
  go_wp2_with (first
    | (go_at_call 11; refine (HSH.out _ HX0.out).mono ?_; rintro e w1 ⟨rfl, hx1⟩; have hy1 := Ext.trans (Ext.refl (w.alloc (boxC c la fa lk fk))) hx1; clear z0 z1 z2; obtain ⟨z0, z1, z2⟩ := HBC.out _ hy1)
    | (go_at_call 13; refine (HPL.out _ (HX0.out.trans hy1)).mono ?_; rintro e w2 ⟨rfl, hx2⟩; have hy2 := Ext.trans hy1 hx2; clear z0 z1 z2; obtain ⟨z0, z1, z2⟩ := HBC.out _ hy2)
    | (go_at_call 14; refine (HRO.out _ (HX0.out.trans hy2)).mono ?_; rintro e w3 ⟨rfl, hx3⟩; have hy3 := Ext.trans hy2 hx3; clear z0 z1 z2; obtain ⟨z0, z1, z2⟩ := HBC.out _ hy3)
    | (go_at_call 15; refine (HRP.out _ (HX0.out.trans hy3)).mono ?_; rintro e w4 ⟨qa, qc, rfl, hx4⟩; have hy4 := Ext.trans hy3 hx4; clear z0 z1 z2; obtain ⟨z0, z1, z2⟩ := HBC.out _ hy4)
    | (go_at_call 12; refine (HL.out _ (HX0.out.trans hy4)).mono ?_; rintro e wk ⟨rfl, hxk⟩))
  go_ret
  exact ⟨rfl, (HX0.out.trans hy4).trans hxk⟩
set_option maxRecDepth 100000 in
set_option maxHeartbeats 8000000 in
theorem plans_e3 (v : Value) (c : Roads) (w : World) (hR : RoadsAt w v c) (ht : TabOk w) (hs : shortB c = true) (hl0 : c.loads.length ≤ 1000) (hr : isRoadsB c = true) (hh : ¬ c.bears < maxL c.loads) (p : List (List Int)) (hbp : bestPlan c = some p) (hp0 : 0 < p.length) (hst : StopsL c p) : Calls Tryz.prog 3 #[v] w (TrueP w) := by
  have hR' := hR
  obtain ⟨lv, fv, rfl, hll, hff⟩ := hR
  obtain ⟨la, lk, rfl, l1, l2, _⟩ := hll.open
  obtain ⟨fa, fk, rfl, f1, f2, _⟩ := hff.open
  have hx0 : Ext w (w.alloc (boxC c la fa lk fk)) := (Ext.refl w).alloc _
  have HX0 := Lib.hid hx0
  have HBC := Lib.hid (fun W (h : Ext (w.alloc (boxC c la fa lk fk)) W) => boxC_cells ((h.block (by simp)).trans (World.alloc_heap_new w (boxC c la fa lk fk))))
  have HSH := Lib.hid (fun w1 (hx : Ext w w1) => short_any _ c w1 (hR'.ext hx))
  have HPL := Lib.hid (fun w1 (hx : Ext w w1) => plan_any _ c w1 (hR'.ext hx))
  have HL := Lib.hid (fun w1 (hx : Ext w w1) => lknown_any w1 (ht.ext hx))
  have HRO := Lib.hid (fun w1 (hx : Ext w w1) => rroads_any _ c w1 (hR'.ext hx) hl0)
  rw [hs] at HSH
  rw [hr] at HRO
  have HPL := Lib.hid (fun w1 (hx : Ext w w1) => (HPL.out w1 hx).mono (R' := fun e w' => ∃ pa pc, e = .returned (.tuple #[.slice pa p.length pc, .int .i64 (planLen c p), .int .i64 0]) ∧ Ext w1 w' ∧ RowsAt w' (.slice pa p.length pc) p) (fun e w' h => by
    obtain ⟨nv, d, err, rfl, hx, hq⟩ := h
    rw [if_neg (by rw [hr]; simp), if_neg hh, hbp] at hq
    obtain ⟨rfl, rfl, hrow⟩ := hq
    obtain ⟨pa, pc, rfl, _⟩ := hrow.open
    exact ⟨pa, pc, rfl, hx, hrow⟩))
  have HRP := Lib.hid (fun w1 (hx : Ext w w1) => (rplan_any _ c w1 (roadsB_of hr) (roadsB_of hr).n2 (hR'.ext hx)).mono (R' := fun e w' => ∃ pa pc, e = .returned (.tuple #[.slice pa p.length pc, .bool true]) ∧ Ext w1 w' ∧ RowsAt w' (.slice pa p.length pc) p) (fun e w' h => by
    obtain ⟨pv, rfl, hx, hp⟩ := h
    rw [hbp] at hp ⊢
    obtain ⟨pa, pc, rfl, _⟩ := hp.open
    exact ⟨pa, pc, by rw [show decide (0 < (optL (some p)).length) = true from decide_eq_true hp0] <;> rfl, hx, hp⟩))
  have HSM := Lib.hid (fun w1 va vb (ha : RowsAt w1 va p) (hb : RowsAt w1 vb p) => samePlan_yes va vb p w1 ha hb)
  have HLN := Lib.hid (fun w1 (hx : Ext w w1) vb (hb : RowsAt w1 vb p) => rplanLen_any _ vb c p w1 (roadsB_of hr) (hR'.ext hx) hb (fun l hl => (hst.2 l hl).1) (by have := hst.1; omega) (fun l hl => by have := (hst.2 l hl).2; omega))
  have hmix : Tryz.prog.follows .mixedOrders = true := by kernel_rfl
  clear hR' hll hff hx0 ht hs hr hl0 hh hbp hp0 hst
  go_enter Tryz.func3, Tryz.ntmps3
  obtain ⟨z0, z1, z2⟩ := HBC.out _ (Ext.refl _)
  go_wp2_with (first
    | (go_at_call 11; refine (HSH.out _ HX0.out).mono ?_; rintro e w1 ⟨rfl, hx1⟩; have hy1 := Ext.trans (Ext.refl (w.alloc (boxC c la fa lk fk))) hx1; clear z0 z1 z2; obtain ⟨z0, z1, z2⟩ := HBC.out _ hy1)
    | (go_at_call 13; refine (HPL.out _ (HX0.out.trans hy1)).mono ?_; rintro e w2 ⟨qa, qc, rfl, hx2, hp2⟩; have HP2 := Lib.hid hp2; clear hp2; have hy2 := Ext.trans hy1 hx2; clear z0 z1 z2; obtain ⟨z0, z1, z2⟩ := HBC.out _ hy2)
    | (go_at_call 14; refine (HRO.out _ (HX0.out.trans hy2)).mono ?_; rintro e w3 ⟨rfl, hx3⟩; have hy3 := Ext.trans hy2 hx3; clear z0 z1 z2; obtain ⟨z0, z1, z2⟩ := HBC.out _ hy3)
    | (go_at_call 15; refine (HRP.out _ (HX0.out.trans hy3)).mono ?_; rintro e w4 ⟨ra, rc, rfl, hx4, hp4⟩; have HP4 := Lib.hid hp4; clear hp4; have hy4 := Ext.trans hy3 hx4; clear z0 z1 z2; obtain ⟨z0, z1, z2⟩ := HBC.out _ hy4)
    | (go_at_call 16; refine (HSM.out _ _ _ (HP2.out.ext (hx3.trans hx4)) HP4.out).mono ?_; rintro e w5 ⟨rfl, hx5⟩; have hy5 := Ext.trans hy4 hx5; clear z0 z1 z2; obtain ⟨z0, z1, z2⟩ := HBC.out _ hy5)
    | (go_at_call 17; refine (HLN.out _ (HX0.out.trans hy5) _ (HP4.out.ext hx5)).mono ?_; rintro e w6 ⟨rfl, hx6⟩; have hy6 := Ext.trans hy5 hx6; clear z0 z1 z2; obtain ⟨z0, z1, z2⟩ := HBC.out _ hy6)
    | (go_at_call 12; refine (HL.out _ (HX0.out.trans hy6)).mono ?_; rintro e wk ⟨rfl, hxk⟩))
  go_ret
  exact ⟨rfl, (HX0.out.trans hy6).trans hxk⟩
theorem short_loads {c : Roads} (h : shortB c = true) : c.loads.length ≤ 1000 := by
  simp only [shortB, Bool.and_eq_true, decide_eq_true_eq] at h
  omega
theorem cardPlans_any (v : Value) (c : Roads) (w : World) (hR : RoadsAt w v c) (ht : TabOk w) : Calls Tryz.prog 3 #[v] w (TrueP w) := by
  cases hs : shortB c with
  | false => exact plans_e0 v c w hR ht hs
  | true =>
  have hl0 := short_loads hs
  cases hr : isRoadsB c with
  | false => exact plans_e1 v c w hR ht hs hl0 hr
  | true =>
  have hB := roadsB_of hr
  by_cases hh : c.bears < maxL c.loads
  · have hbp : bestPlan c = none := by
      cases h : bestPlan c with
      | none => rfl
      | some p =>
        obtain ⟨h1, h2⟩ := best_plan_ok hB h
        rw [no_plan hr hh h2] at h1
        cases h1
    exact plans_e2 v c w hR ht hs hl0 hr hh hbp
  · obtain ⟨p, hbp⟩ := best_some hr hh
    have hst : StopsL c p := by
      have h := refUp_stops hB hB.n2 (waysAll c).length
      rw [refUp_end hB (Nat.le_refl _), hbp] at h
      exact h
    exact plans_e3 v c w hR ht hs hl0 hr hh p hbp (List.length_pos_iff.2 ((refPlan_eq hB).2 p hbp)) hst
end Go.Proofs.YtapkbonlijhmjaaGreatDoor
