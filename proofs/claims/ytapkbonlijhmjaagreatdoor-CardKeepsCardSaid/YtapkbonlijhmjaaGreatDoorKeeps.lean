/- The law CardKeeps: the walk. -/
import Derived.Test.YtapkbonlijhmjaaGreatDoorKeepsb
import Derived.Test.YtapkbonlijhmjaaGreatDoorRisplan
import Derived.Test.YtapkbonlijhmjaaGreatDoorOpened
namespace Go.Proofs.YtapkbonlijhmjaaGreatDoor
open Go.RowKit

set_option maxRecDepth 100000 in
set_option maxHeartbeats 8000000 in
theorem keepsL_e0 (v : Value) (c : Roads) (pv : Value) (P : List (List Int)) (w : World) (hR : RoadsAt w v c) (hP : RowsAt w pv P) (ht : TabOk w) (hs : shortB c = false) : Calls Tryz.prog 5 #[v, pv] w (TrueP w) := by
  have hR' := hR
  have hP' := hP
  obtain ⟨lv, fv, rfl, hll, hff⟩ := hR
  obtain ⟨la, lk, rfl, l1, l2, _⟩ := hll.open
  obtain ⟨fa, fk, rfl, f1, f2, _⟩ := hff.open
  obtain ⟨pa, pk, rfl, p1, p2, _⟩ := hP.open
  have hx0 : Ext w (w.alloc (boxC c la fa lk fk)) := (Ext.refl w).alloc _
  have HX0 := Lib.hid hx0
  have HBC := Lib.hid (fun W (h : Ext (w.alloc (boxC c la fa lk fk)) W) => boxC_cells ((h.block (by simp)).trans (World.alloc_heap_new w (boxC c la fa lk fk))))
  have HSH := Lib.hid (fun w1 (hx : Ext w w1) => short_any _ c w1 (hR'.ext hx))
  have HLI := Lib.hid (fun w1 (hx : Ext w w1) => lists_any _ P w1 (hP'.ext hx))
  have HSO := Lib.hid (fun w1 (hx : Ext w w1) => lsome_any _ _ c P w1 (hR'.ext hx) (hP'.ext hx))
  have HL := Lib.hid (fun w1 (hx : Ext w w1) => lknown_any w1 (ht.ext hx))
  rw [hs] at HSH
  have hmix : Tryz.prog.follows .mixedOrders = true := by kernel_rfl
  clear hR' hP' hll hff hP hx0 ht hs HLI HSO
  go_enter Tryz.func5, Tryz.ntmps5
  obtain ⟨z0, z1, z2⟩ := HBC.out _ (Ext.refl _)
  go_wp2_with (first
    | (go_at_call 11; refine (HSH.out _ HX0.out).mono ?_; rintro e w1 ⟨rfl, hx1⟩; have hy1 := Ext.trans (Ext.refl (w.alloc (boxC c la fa lk fk))) hx1; clear z0 z1 z2; obtain ⟨z0, z1, z2⟩ := HBC.out _ hy1)
    | (go_at_call 12; refine (HL.out _ (HX0.out.trans hy1)).mono ?_; rintro e wk ⟨rfl, hxk⟩))
  go_ret
  exact ⟨rfl, (HX0.out.trans hy1).trans hxk⟩
set_option maxRecDepth 100000 in
set_option maxHeartbeats 8000000 in
theorem keepsL_e1 (v : Value) (c : Roads) (pv : Value) (P : List (List Int)) (w : World) (hR : RoadsAt w v c) (hP : RowsAt w pv P) (ht : TabOk w) (hs : shortB c = true) (hli : listsB P = false) : Calls Tryz.prog 5 #[v, pv] w (TrueP w) := by
  have hR' := hR
  have hP' := hP
  obtain ⟨lv, fv, rfl, hll, hff⟩ := hR
  obtain ⟨la, lk, rfl, l1, l2, _⟩ := hll.open
  obtain ⟨fa, fk, rfl, f1, f2, _⟩ := hff.open
  obtain ⟨pa, pk, rfl, p1, p2, _⟩ := hP.open
  have hx0 : Ext w (w.alloc (boxC c la fa lk fk)) := (Ext.refl w).alloc _
  have HX0 := Lib.hid hx0
  have HBC := Lib.hid (fun W (h : Ext (w.alloc (boxC c la fa lk fk)) W) => boxC_cells ((h.block (by simp)).trans (World.alloc_heap_new w (boxC c la fa lk fk))))
  have HSH := Lib.hid (fun w1 (hx : Ext w w1) => short_any _ c w1 (hR'.ext hx))
  have HLI := Lib.hid (fun w1 (hx : Ext w w1) => lists_any _ P w1 (hP'.ext hx))
  have HSO := Lib.hid (fun w1 (hx : Ext w w1) => lsome_any _ _ c P w1 (hR'.ext hx) (hP'.ext hx))
  have HL := Lib.hid (fun w1 (hx : Ext w w1) => lknown_any w1 (ht.ext hx))
  rw [hs] at HSH
  rw [hli] at HLI
  have hmix : Tryz.prog.follows .mixedOrders = true := by kernel_rfl
  clear hR' hP' hll hff hP hx0 ht hs hli HSO
  go_enter Tryz.func5, Tryz.ntmps5
  obtain ⟨z0, z1, z2⟩ := HBC.out _ (Ext.refl _)
  go_wp2_with (first
    | (go_at_call 11; refine (HSH.out _ HX0.out).mono ?_; rintro e w1 ⟨rfl, hx1⟩; have hy1 := Ext.trans (Ext.refl (w.alloc (boxC c la fa lk fk))) hx1; clear z0 z1 z2; obtain ⟨z0, z1, z2⟩ := HBC.out _ hy1)
    | (go_at_call 21; refine (HLI.out _ (HX0.out.trans hy1)).mono ?_; rintro e w2 ⟨rfl, hx2⟩; have hy2 := Ext.trans hy1 hx2; clear z0 z1 z2; obtain ⟨z0, z1, z2⟩ := HBC.out _ hy2)
    | (go_at_call 12; refine (HL.out _ (HX0.out.trans hy2)).mono ?_; rintro e wk ⟨rfl, hxk⟩))
  go_ret
  exact ⟨rfl, (HX0.out.trans hy2).trans hxk⟩
set_option maxRecDepth 100000 in
set_option maxHeartbeats 8000000 in
theorem keepsL_e2 (v : Value) (c : Roads) (pv : Value) (P : List (List Int)) (w : World) (hR : RoadsAt w v c) (hP : RowsAt w pv P) (ht : TabOk w) (hs : shortB c = true) (hli : listsB P = true) (hl0 : c.loads.length ≤ 1000) (hr : isRoadsB c = false) : Calls Tryz.prog 5 #[v, pv] w (TrueP w) := by
  have hR' := hR
  have hP' := hP
  obtain ⟨lv, fv, rfl, hll, hff⟩ := hR
  obtain ⟨la, lk, rfl, l1, l2, _⟩ := hll.open
  obtain ⟨fa, fk, rfl, f1, f2, _⟩ := hff.open
  obtain ⟨pa, pk, rfl, p1, p2, _⟩ := hP.open
  have hx0 : Ext w (w.alloc (boxC c la fa lk fk)) := (Ext.refl w).alloc _
  have HX0 := Lib.hid hx0
  have HBC := Lib.hid (fun W (h : Ext (w.alloc (boxC c la fa lk fk)) W) => boxC_cells ((h.block (by simp)).trans (World.alloc_heap_new w (boxC c la fa lk fk))))
  have HSH := Lib.hid (fun w1 (hx : Ext w w1) => short_any _ c w1 (hR'.ext hx))
  have HLI := Lib.hid (fun w1 (hx : Ext w w1) => lists_any _ P w1 (hP'.ext hx))
  have HSO := Lib.hid (fun w1 (hx : Ext w w1) => lsome_any _ _ c P w1 (hR'.ext hx) (hP'.ext hx))
  have HL := Lib.hid (fun w1 (hx : Ext w w1) => lknown_any w1 (ht.ext hx))
  have HRO := Lib.hid (fun w1 (hx : Ext w w1) => rroads_any _ c w1 (hR'.ext hx) hl0)
  rw [hs] at HSH
  rw [hli] at HLI
  rw [hr] at HRO
  have HKE := Lib.hid (fun w1 (hx : Ext w w1) => (keeps_any _ _ c P w1 (hR'.ext hx) (hP'.ext hx) (lists_bd hli)).mono (R' := fun e w' => e = .returned (.tuple #[.bool false, .int .i64 0, .int .i64 2]) ∧ Ext w1 w') (fun e w' h => by
    obtain ⟨b, d, err, rfl, hx, k1, k2⟩ := h
    obtain ⟨rfl, rfl, rfl⟩ := k1 (.inl hr)
    exact ⟨rfl, hx⟩))
  have hmix : Tryz.prog.follows .mixedOrders = true := by kernel_rfl
  clear hR' hP' hll hff hP hx0 ht hs hli hl0 hr HSO
  go_enter Tryz.func5, Tryz.ntmps5
  obtain ⟨z0, z1, z2⟩ := HBC.out _ (Ext.refl _)
  go_wp2_with (first
    | (go_at_call 11; refine (HSH.out _ HX0.out).mono ?_; rintro e w1 ⟨rfl, hx1⟩; have hy1 := Ext.trans (Ext.refl (w.alloc (boxC c la fa lk fk))) hx1; clear z0 z1 z2; obtain ⟨z0, z1, z2⟩ := HBC.out _ hy1)
    | (go_at_call 21; refine (HLI.out _ (HX0.out.trans hy1)).mono ?_; rintro e w2 ⟨rfl, hx2⟩; have hy2 := Ext.trans hy1 hx2; clear z0 z1 z2; obtain ⟨z0, z1, z2⟩ := HBC.out _ hy2)
    | (go_at_call 22; refine (HKE.out _ (HX0.out.trans hy2)).mono ?_; rintro e w3 ⟨rfl, hx3⟩; have hy3 := Ext.trans hy2 hx3; clear z0 z1 z2; obtain ⟨z0, z1, z2⟩ := HBC.out _ hy3)
    | (go_at_call 14; refine (HRO.out _ (HX0.out.trans hy3)).mono ?_; rintro e w4 ⟨rfl, hx4⟩; have hy4 := Ext.trans hy3 hx4; clear z0 z1 z2; obtain ⟨z0, z1, z2⟩ := HBC.out _ hy4)
    | (go_at_call 12; refine (HL.out _ (HX0.out.trans hy4)).mono ?_; rintro e wk ⟨rfl, hxk⟩))
  go_ret
  exact ⟨rfl, (HX0.out.trans hy4).trans hxk⟩
set_option maxRecDepth 100000 in
set_option maxHeartbeats 8000000 in
theorem keepsL_e3 (v : Value) (c : Roads) (pv : Value) (P : List (List Int)) (w : World) (hR : RoadsAt w v c) (hP : RowsAt w pv P) (ht : TabOk w) (hs : shortB c = true) (hli : listsB P = true) (hl0 : c.loads.length ≤ 1000) (hr : isRoadsB c = true) (hso : someP c P = false) : Calls Tryz.prog 5 #[v, pv] w (TrueP w) := by
  have hR' := hR
  have hP' := hP
  obtain ⟨lv, fv, rfl, hll, hff⟩ := hR
  obtain ⟨la, lk, rfl, l1, l2, _⟩ := hll.open
  obtain ⟨fa, fk, rfl, f1, f2, _⟩ := hff.open
  obtain ⟨pa, pk, rfl, p1, p2, _⟩ := hP.open
  have hx0 : Ext w (w.alloc (boxC c la fa lk fk)) := (Ext.refl w).alloc _
  have HX0 := Lib.hid hx0
  have HBC := Lib.hid (fun W (h : Ext (w.alloc (boxC c la fa lk fk)) W) => boxC_cells ((h.block (by simp)).trans (World.alloc_heap_new w (boxC c la fa lk fk))))
  have HSH := Lib.hid (fun w1 (hx : Ext w w1) => short_any _ c w1 (hR'.ext hx))
  have HLI := Lib.hid (fun w1 (hx : Ext w w1) => lists_any _ P w1 (hP'.ext hx))
  have HSO := Lib.hid (fun w1 (hx : Ext w w1) => lsome_any _ _ c P w1 (hR'.ext hx) (hP'.ext hx))
  have HL := Lib.hid (fun w1 (hx : Ext w w1) => lknown_any w1 (ht.ext hx))
  have HRO := Lib.hid (fun w1 (hx : Ext w w1) => rroads_any _ c w1 (hR'.ext hx) hl0)
  rw [hs] at HSH
  rw [hli] at HLI
  rw [hr] at HRO
  rw [hso] at HSO
  have HKE := Lib.hid (fun w1 (hx : Ext w w1) => (keeps_any _ _ c P w1 (hR'.ext hx) (hP'.ext hx) (lists_bd hli)).mono (R' := fun e w' => e = .returned (.tuple #[.bool false, .int .i64 0, .int .i64 2]) ∧ Ext w1 w') (fun e w' h => by
    obtain ⟨b, d, err, rfl, hx, k1, k2⟩ := h
    obtain ⟨rfl, rfl, rfl⟩ := k1 (.inr hso)
    exact ⟨rfl, hx⟩))
  have hmix : Tryz.prog.follows .mixedOrders = true := by kernel_rfl
  clear hR' hP' hll hff hP hx0 ht hs hli hl0 hr hso
  go_enter Tryz.func5, Tryz.ntmps5
  obtain ⟨z0, z1, z2⟩ := HBC.out _ (Ext.refl _)
  go_wp2_with (first
    | (go_at_call 11; refine (HSH.out _ HX0.out).mono ?_; rintro e w1 ⟨rfl, hx1⟩; have hy1 := Ext.trans (Ext.refl (w.alloc (boxC c la fa lk fk))) hx1; clear z0 z1 z2; obtain ⟨z0, z1, z2⟩ := HBC.out _ hy1)
    | (go_at_call 21; refine (HLI.out _ (HX0.out.trans hy1)).mono ?_; rintro e w2 ⟨rfl, hx2⟩; have hy2 := Ext.trans hy1 hx2; clear z0 z1 z2; obtain ⟨z0, z1, z2⟩ := HBC.out _ hy2)
    | (go_at_call 22; refine (HKE.out _ (HX0.out.trans hy2)).mono ?_; rintro e w3 ⟨rfl, hx3⟩; have hy3 := Ext.trans hy2 hx3; clear z0 z1 z2; obtain ⟨z0, z1, z2⟩ := HBC.out _ hy3)
    | (go_at_call 14; refine (HRO.out _ (HX0.out.trans hy3)).mono ?_; rintro e w4 ⟨rfl, hx4⟩; have hy4 := Ext.trans hy3 hx4; clear z0 z1 z2; obtain ⟨z0, z1, z2⟩ := HBC.out _ hy4)
    | (go_at_call 23; refine (HSO.out _ (HX0.out.trans hy4)).mono ?_; rintro e w5 ⟨rfl, hx5⟩; have hy5 := Ext.trans hy4 hx5; clear z0 z1 z2; obtain ⟨z0, z1, z2⟩ := HBC.out _ hy5)
    | (go_at_call 12; refine (HL.out _ (HX0.out.trans hy5)).mono ?_; rintro e wk ⟨rfl, hxk⟩))
  go_ret
  exact ⟨rfl, (HX0.out.trans hy5).trans hxk⟩
set_option maxRecDepth 100000 in
set_option maxHeartbeats 8000000 in
theorem keepsL_e4 (v : Value) (c : Roads) (pv : Value) (P : List (List Int)) (w : World) (hR : RoadsAt w v c) (hP : RowsAt w pv P) (ht : TabOk w) (hs : shortB c = true) (hli : listsB P = true) (hl0 : c.loads.length ≤ 1000) (hr : isRoadsB c = true) (hso : someP c P = true) (hip : isPlanB c P = false) : Calls Tryz.prog 5 #[v, pv] w (TrueP w) := by
  have hR' := hR
  have hP' := hP
  obtain ⟨lv, fv, rfl, hll, hff⟩ := hR
  obtain ⟨la, lk, rfl, l1, l2, _⟩ := hll.open
  obtain ⟨fa, fk, rfl, f1, f2, _⟩ := hff.open
  obtain ⟨pa, pk, rfl, p1, p2, _⟩ := hP.open
  have hx0 : Ext w (w.alloc (boxC c la fa lk fk)) := (Ext.refl w).alloc _
  have HX0 := Lib.hid hx0
  have HBC := Lib.hid (fun W (h : Ext (w.alloc (boxC c la fa lk fk)) W) => boxC_cells ((h.block (by simp)).trans (World.alloc_heap_new w (boxC c la fa lk fk))))
  have HSH := Lib.hid (fun w1 (hx : Ext w w1) => short_any _ c w1 (hR'.ext hx))
  have HLI := Lib.hid (fun w1 (hx : Ext w w1) => lists_any _ P w1 (hP'.ext hx))
  have HSO := Lib.hid (fun w1 (hx : Ext w w1) => lsome_any _ _ c P w1 (hR'.ext hx) (hP'.ext hx))
  have HL := Lib.hid (fun w1 (hx : Ext w w1) => lknown_any w1 (ht.ext hx))
  have HRO := Lib.hid (fun w1 (hx : Ext w w1) => rroads_any _ c w1 (hR'.ext hx) hl0)
  rw [hs] at HSH
  rw [hli] at HLI
  have HIP := Lib.hid (fun w1 (hx : Ext w w1) => risPlan_any _ _ c P w1 (roadsB_of hr) (hR'.ext hx) (hP'.ext hx) (someP_stop hso) (lists_bd hli))
  rw [hip] at HIP
  rw [hr] at HRO
  rw [hso] at HSO
  have HKE := Lib.hid (fun w1 (hx : Ext w w1) => (keeps_any _ _ c P w1 (hR'.ext hx) (hP'.ext hx) (lists_bd hli)).mono (R' := fun e w' => e = .returned (.tuple #[.bool false, .int .i64 0, .int .i64 0]) ∧ Ext w1 w') (fun e w' h => by
    obtain ⟨b, d, err, rfl, hx, k1, k2⟩ := h
    obtain ⟨rfl, hb, k3, k4⟩ := k2 hr hso
    rw [hip] at hb
    subst hb
    obtain rfl := k4 rfl
    exact ⟨rfl, hx⟩))
  have hmix : Tryz.prog.follows .mixedOrders = true := by kernel_rfl
  clear hR' hP' hll hff hP hx0 ht hs hli hl0 hr hso hip
  go_enter Tryz.func5, Tryz.ntmps5
  obtain ⟨z0, z1, z2⟩ := HBC.out _ (Ext.refl _)
  go_wp2_with (first
    | (go_at_call 11; refine (HSH.out _ HX0.out).mono ?_; rintro e w1 ⟨rfl, hx1⟩; have hy1 := Ext.trans (Ext.refl (w.alloc (boxC c la fa lk fk))) hx1; clear z0 z1 z2; obtain ⟨z0, z1, z2⟩ := HBC.out _ hy1)
    | (go_at_call 21; refine (HLI.out _ (HX0.out.trans hy1)).mono ?_; rintro e w2 ⟨rfl, hx2⟩; have hy2 := Ext.trans hy1 hx2; clear z0 z1 z2; obtain ⟨z0, z1, z2⟩ := HBC.out _ hy2)
    | (go_at_call 22; refine (HKE.out _ (HX0.out.trans hy2)).mono ?_; rintro e w3 ⟨rfl, hx3⟩; have hy3 := Ext.trans hy2 hx3; clear z0 z1 z2; obtain ⟨z0, z1, z2⟩ := HBC.out _ hy3)
    | (go_at_call 14; refine (HRO.out _ (HX0.out.trans hy3)).mono ?_; rintro e w4 ⟨rfl, hx4⟩; have hy4 := Ext.trans hy3 hx4; clear z0 z1 z2; obtain ⟨z0, z1, z2⟩ := HBC.out _ hy4)
    | (go_at_call 23; refine (HSO.out _ (HX0.out.trans hy4)).mono ?_; rintro e w5 ⟨rfl, hx5⟩; have hy5 := Ext.trans hy4 hx5; clear z0 z1 z2; obtain ⟨z0, z1, z2⟩ := HBC.out _ hy5)
    | (go_at_call 24; refine (HIP.out _ (HX0.out.trans hy5)).mono ?_; rintro e w6 ⟨rfl, hx6⟩; have hy6 := Ext.trans hy5 hx6; clear z0 z1 z2; obtain ⟨z0, z1, z2⟩ := HBC.out _ hy6)
    | (go_at_call 12; refine (HL.out _ (HX0.out.trans hy6)).mono ?_; rintro e wk ⟨rfl, hxk⟩))
  go_ret
  exact ⟨rfl, (HX0.out.trans hy6).trans hxk⟩
set_option maxRecDepth 100000 in
set_option maxHeartbeats 8000000 in
theorem keepsL_e5 (v : Value) (c : Roads) (pv : Value) (P : List (List Int)) (w : World) (hR : RoadsAt w v c) (hP : RowsAt w pv P) (ht : TabOk w) (hs : shortB c = true) (hli : listsB P = true) (hl0 : c.loads.length ≤ 1000) (hr : isRoadsB c = true) (hso : someP c P = true) (hip : isPlanB c P = true) : Calls Tryz.prog 5 #[v, pv] w (TrueP w) := by
  have hR' := hR
  have hP' := hP
  obtain ⟨lv, fv, rfl, hll, hff⟩ := hR
  obtain ⟨la, lk, rfl, l1, l2, _⟩ := hll.open
  obtain ⟨fa, fk, rfl, f1, f2, _⟩ := hff.open
  obtain ⟨pa, pk, rfl, p1, p2, _⟩ := hP.open
  have hx0 : Ext w (w.alloc (boxC c la fa lk fk)) := (Ext.refl w).alloc _
  have HX0 := Lib.hid hx0
  have HBC := Lib.hid (fun W (h : Ext (w.alloc (boxC c la fa lk fk)) W) => boxC_cells ((h.block (by simp)).trans (World.alloc_heap_new w (boxC c la fa lk fk))))
  have HSH := Lib.hid (fun w1 (hx : Ext w w1) => short_any _ c w1 (hR'.ext hx))
  have HLI := Lib.hid (fun w1 (hx : Ext w w1) => lists_any _ P w1 (hP'.ext hx))
  have HSO := Lib.hid (fun w1 (hx : Ext w w1) => lsome_any _ _ c P w1 (hR'.ext hx) (hP'.ext hx))
  have HL := Lib.hid (fun w1 (hx : Ext w w1) => lknown_any w1 (ht.ext hx))
  have HRO := Lib.hid (fun w1 (hx : Ext w w1) => rroads_any _ c w1 (hR'.ext hx) hl0)
  rw [hs] at HSH
  rw [hli] at HLI
  have HIP := Lib.hid (fun w1 (hx : Ext w w1) => risPlan_any _ _ c P w1 (roadsB_of hr) (hR'.ext hx) (hP'.ext hx) (someP_stop hso) (lists_bd hli))
  rw [hip] at HIP
  have HPL := Lib.hid (fun w1 (hx : Ext w w1) => rplanLen_any _ _ c P w1 (roadsB_of hr) (hR'.ext hx) (hP'.ext hx) (someP_stop hso) (by have := (lists_bd hli).1; omega) (fun l hl => by have := (lists_bd hli).2 l hl; omega))
  rw [hr] at HRO
  rw [hso] at HSO
  have HKE := Lib.hid (fun w1 (hx : Ext w w1) => (keeps_any _ _ c P w1 (hR'.ext hx) (hP'.ext hx) (lists_bd hli)).mono (R' := fun e w' => e = .returned (.tuple #[.bool true, .int .i64 (planLen c P), .int .i64 0]) ∧ Ext w1 w') (fun e w' h => by
    obtain ⟨b, d, err, rfl, hx, k1, k2⟩ := h
    obtain ⟨rfl, hb, k3, k4⟩ := k2 hr hso
    rw [hip] at hb
    subst hb
    obtain rfl := k3 rfl
    exact ⟨rfl, hx⟩))
  have hmix : Tryz.prog.follows .mixedOrders = true := by kernel_rfl
  clear hR' hP' hll hff hP hx0 ht hs hli hl0 hr hso hip
  go_enter Tryz.func5, Tryz.ntmps5
  obtain ⟨z0, z1, z2⟩ := HBC.out _ (Ext.refl _)
  go_wp2_with (first
    | (go_at_call 11; refine (HSH.out _ HX0.out).mono ?_; rintro e w1 ⟨rfl, hx1⟩; have hy1 := Ext.trans (Ext.refl (w.alloc (boxC c la fa lk fk))) hx1; clear z0 z1 z2; obtain ⟨z0, z1, z2⟩ := HBC.out _ hy1)
    | (go_at_call 21; refine (HLI.out _ (HX0.out.trans hy1)).mono ?_; rintro e w2 ⟨rfl, hx2⟩; have hy2 := Ext.trans hy1 hx2; clear z0 z1 z2; obtain ⟨z0, z1, z2⟩ := HBC.out _ hy2)
    | (go_at_call 22; refine (HKE.out _ (HX0.out.trans hy2)).mono ?_; rintro e w3 ⟨rfl, hx3⟩; have hy3 := Ext.trans hy2 hx3; clear z0 z1 z2; obtain ⟨z0, z1, z2⟩ := HBC.out _ hy3)
    | (go_at_call 14; refine (HRO.out _ (HX0.out.trans hy3)).mono ?_; rintro e w4 ⟨rfl, hx4⟩; have hy4 := Ext.trans hy3 hx4; clear z0 z1 z2; obtain ⟨z0, z1, z2⟩ := HBC.out _ hy4)
    | (go_at_call 23; refine (HSO.out _ (HX0.out.trans hy4)).mono ?_; rintro e w5 ⟨rfl, hx5⟩; have hy5 := Ext.trans hy4 hx5; clear z0 z1 z2; obtain ⟨z0, z1, z2⟩ := HBC.out _ hy5)
    | (go_at_call 24; refine (HIP.out _ (HX0.out.trans hy5)).mono ?_; rintro e w6 ⟨rfl, hx6⟩; have hy6 := Ext.trans hy5 hx6; clear z0 z1 z2; obtain ⟨z0, z1, z2⟩ := HBC.out _ hy6)
    | (go_at_call 17; refine (HPL.out _ (HX0.out.trans hy6)).mono ?_; rintro e w7 ⟨rfl, hx7⟩; have hy7 := Ext.trans hy6 hx7; clear z0 z1 z2; obtain ⟨z0, z1, z2⟩ := HBC.out _ hy7)
    | (go_at_call 12; refine (HL.out _ (HX0.out.trans hy7)).mono ?_; rintro e wk ⟨rfl, hxk⟩))
  go_ret
  exact ⟨rfl, (HX0.out.trans hy7).trans hxk⟩
theorem cardKeeps_any (v : Value) (c : Roads) (pv : Value) (P : List (List Int)) (w : World) (hR : RoadsAt w v c) (hP : RowsAt w pv P) (ht : TabOk w) : Calls Tryz.prog 5 #[v, pv] w (TrueP w) := by
  cases hs : shortB c with
  | false => exact keepsL_e0 v c pv P w hR hP ht hs
  | true =>
  cases hli : listsB P with
  | false => exact keepsL_e1 v c pv P w hR hP ht hs hli
  | true =>
  have hl0 : c.loads.length ≤ 1000 := by
    simp only [shortB, Bool.and_eq_true, decide_eq_true_eq] at hs
    omega
  cases hr : isRoadsB c with
  | false => exact keepsL_e2 v c pv P w hR hP ht hs hli hl0 hr
  | true =>
  cases hso : someP c P with
  | false => exact keepsL_e3 v c pv P w hR hP ht hs hli hl0 hr hso
  | true =>
  cases hip : isPlanB c P with
  | false => exact keepsL_e4 v c pv P w hR hP ht hs hli hl0 hr hso hip
  | true => exact keepsL_e5 v c pv P w hR hP ht hs hli hl0 hr hso hip
end Go.Proofs.YtapkbonlijhmjaaGreatDoor
