/- The law CardFewest: the walk. -/
import Derived.Test.YtapkbonlijhmjaaGreatDoorKeepsb
import Derived.Test.YtapkbonlijhmjaaGreatDoorRplan
import Derived.Test.YtapkbonlijhmjaaGreatDoorOpened
namespace Go.Proofs.YtapkbonlijhmjaaGreatDoor
open Go.RowKit

set_option maxRecDepth 100000 in
set_option maxHeartbeats 16000000 in
theorem fewestL_e0 (v : Value) (c : Roads) (pv : Value) (P : List (List Int)) (w : World) (hR : RoadsAt w v c) (hP : RowsAt w pv P) (ht : TabOk w) (hs : shortB c = false) : Calls Tryz.prog 6 #[v, pv] w (TrueP w) := by
  have hR' := hR
  have hP' := hP
  obtain ⟨lv, fv, rfl, hll, hff⟩ := hR
  obtain ⟨la, lk, rfl, l1, l2, _⟩ := hll.open
  obtain ⟨fa, fk, rfl, f1, f2, _⟩ := hff.open
  obtain ⟨pa, pk, rfl, p1, p2, _⟩ := hP.open
  have hx0 : Ext w (w.alloc (boxC c la fa lk fk)) := (Ext.refl w).alloc _
  have HX0 := Lib.hid hx0
  have HBC := Lib.hid (fun W (h : Ext (w.alloc (boxC c la fa lk fk)) W) => boxC_cells ((h.block (by simp)).trans (World.alloc_heap_new w (boxC c la fa lk fk))))
  have HSH := Lib.hid (fun w1 (hx : Ext w w1) => short_any _ c w1 (hR'.ext hx))
  have HLI := Lib.hid (fun w1 (hx : Ext w w1) => lists_any _ P w1 (hP'.ext hx))
  have HSO := Lib.hid (fun w1 (hx : Ext w w1) => lsome_any _ _ c P w1 (hR'.ext hx) (hP'.ext hx))
  have HL := Lib.hid (fun w1 (hx : Ext w w1) => lknown_any w1 (ht.ext hx))
  rw [hs] at HSH
  have hmix : Tryz.prog.follows .mixedOrders = true := by kernel_rfl
  clear hR' hP' hll hff hP hx0 ht hs HLI HSO
  go_enter Tryz.func6, Tryz.ntmps6
  obtain ⟨z0, z1, z2⟩ := HBC.out _ (Ext.refl _)
  go_wp2_with (first
    | (go_at_call 11; refine (HSH.out _ HX0.out).mono ?_; rintro e w1 ⟨rfl, hx1⟩; have hy1 := Ext.trans (Ext.refl (w.alloc (boxC c la fa lk fk))) hx1; clear HSH; clear z0 z1 z2; obtain ⟨z0, z1, z2⟩ := HBC.out _ hy1)
    | (go_at_call 12; refine (HL.out _ (HX0.out.trans hy1)).mono ?_; rintro e wk ⟨rfl, hxk⟩))
  go_ret
  exact ⟨rfl, (HX0.out.trans hy1).trans hxk⟩
set_option maxRecDepth 100000 in
set_option maxHeartbeats 16000000 in
theorem fewestL_e1 (v : Value) (c : Roads) (pv : Value) (P : List (List Int)) (w : World) (hR : RoadsAt w v c) (hP : RowsAt w pv P) (ht : TabOk w) (hs : shortB c = true) (hli : listsB P = false) : Calls Tryz.prog 6 #[v, pv] w (TrueP w) := by
  have hR' := hR
  have hP' := hP
  obtain ⟨lv, fv, rfl, hll, hff⟩ := hR
  obtain ⟨la, lk, rfl, l1, l2, _⟩ := hll.open
  obtain ⟨fa, fk, rfl, f1, f2, _⟩ := hff.open
  obtain ⟨pa, pk, rfl, p1, p2, _⟩ := hP.open
  have hx0 : Ext w (w.alloc (boxC c la fa lk fk)) := (Ext.refl w).alloc _
  have HX0 := Lib.hid hx0
  have HBC := Lib.hid (fun W (h : Ext (w.alloc (boxC c la fa lk fk)) W) => boxC_cells ((h.block (by simp)).trans (World.alloc_heap_new w (boxC c la fa lk fk))))
  have HSH := Lib.hid (fun w1 (hx : Ext w w1) => short_any _ c w1 (hR'.ext hx))
  have HLI := Lib.hid (fun w1 (hx : Ext w w1) => lists_any _ P w1 (hP'.ext hx))
  have HSO := Lib.hid (fun w1 (hx : Ext w w1) => lsome_any _ _ c P w1 (hR'.ext hx) (hP'.ext hx))
  have HL := Lib.hid (fun w1 (hx : Ext w w1) => lknown_any w1 (ht.ext hx))
  rw [hs] at HSH
  rw [hli] at HLI
  have hmix : Tryz.prog.follows .mixedOrders = true := by kernel_rfl
  clear hR' hP' hll hff hP hx0 ht hs hli HSO
  go_enter Tryz.func6, Tryz.ntmps6
  obtain ⟨z0, z1, z2⟩ := HBC.out _ (Ext.refl _)
  go_wp2_with (first
    | (go_at_call 11; refine (HSH.out _ HX0.out).mono ?_; rintro e w1 ⟨rfl, hx1⟩; have hy1 := Ext.trans (Ext.refl (w.alloc (boxC c la fa lk fk))) hx1; clear HSH; clear z0 z1 z2; obtain ⟨z0, z1, z2⟩ := HBC.out _ hy1)
    | (go_at_call 21; refine (HLI.out _ (HX0.out.trans hy1)).mono ?_; rintro e w2 ⟨rfl, hx2⟩; have hy2 := Ext.trans hy1 hx2; clear HLI; clear z0 z1 z2; obtain ⟨z0, z1, z2⟩ := HBC.out _ hy2)
    | (go_at_call 12; refine (HL.out _ (HX0.out.trans hy2)).mono ?_; rintro e wk ⟨rfl, hxk⟩))
  go_ret
  exact ⟨rfl, (HX0.out.trans hy2).trans hxk⟩
set_option maxRecDepth 100000 in
set_option maxHeartbeats 16000000 in
theorem fewestL_e2 (v : Value) (c : Roads) (pv : Value) (P : List (List Int)) (w : World) (hR : RoadsAt w v c) (hP : RowsAt w pv P) (ht : TabOk w) (hs : shortB c = true) (hli : listsB P = true) (hl0 : c.loads.length ≤ 1000) (hr : isRoadsB c = false) : Calls Tryz.prog 6 #[v, pv] w (TrueP w) := by
  have hR' := hR
  have hP' := hP
  obtain ⟨lv, fv, rfl, hll, hff⟩ := hR
  obtain ⟨la, lk, rfl, l1, l2, _⟩ := hll.open
  obtain ⟨fa, fk, rfl, f1, f2, _⟩ := hff.open
  obtain ⟨pa, pk, rfl, p1, p2, _⟩ := hP.open
  have hx0 : Ext w (w.alloc (boxC c la fa lk fk)) := (Ext.refl w).alloc _
  have HX0 := Lib.hid hx0
  have HBC := Lib.hid (fun W (h : Ext (w.alloc (boxC c la fa lk fk)) W) => boxC_cells ((h.block (by simp)).trans (World.alloc_heap_new w (boxC c la fa lk fk))))
  have HSH := Lib.hid (fun w1 (hx : Ext w w1) => short_any _ c w1 (hR'.ext hx))
  have HLI := Lib.hid (fun w1 (hx : Ext w w1) => lists_any _ P w1 (hP'.ext hx))
  have HSO := Lib.hid (fun w1 (hx : Ext w w1) => lsome_any _ _ c P w1 (hR'.ext hx) (hP'.ext hx))
  have HL := Lib.hid (fun w1 (hx : Ext w w1) => lknown_any w1 (ht.ext hx))
  have HRO := Lib.hid (fun w1 (hx : Ext w w1) => rroads_any _ c w1 (hR'.ext hx) hl0)
  rw [hs] at HSH
  rw [hli] at HLI
  rw [hr] at HRO
  have hmix : Tryz.prog.follows .mixedOrders = true := by kernel_rfl
  clear hR' hP' hll hff hP hx0 ht hs hli hl0 hr HSO
  go_enter Tryz.func6, Tryz.ntmps6
  obtain ⟨z0, z1, z2⟩ := HBC.out _ (Ext.refl _)
  go_wp2_with (first
    | (go_at_call 11; refine (HSH.out _ HX0.out).mono ?_; rintro e w1 ⟨rfl, hx1⟩; have hy1 := Ext.trans (Ext.refl (w.alloc (boxC c la fa lk fk))) hx1; clear HSH; clear z0 z1 z2; obtain ⟨z0, z1, z2⟩ := HBC.out _ hy1)
    | (go_at_call 21; refine (HLI.out _ (HX0.out.trans hy1)).mono ?_; rintro e w2 ⟨rfl, hx2⟩; have hy2 := Ext.trans hy1 hx2; clear HLI; clear z0 z1 z2; obtain ⟨z0, z1, z2⟩ := HBC.out _ hy2)
    | (go_at_call 14; refine (HRO.out _ (HX0.out.trans hy2)).mono ?_; rintro e w3 ⟨rfl, hx3⟩; have hy3 := Ext.trans hy2 hx3; clear HRO; clear z0 z1 z2; obtain ⟨z0, z1, z2⟩ := HBC.out _ hy3)
    | (go_at_call 12; refine (HL.out _ (HX0.out.trans hy3)).mono ?_; rintro e wk ⟨rfl, hxk⟩))
  go_ret
  exact ⟨rfl, (HX0.out.trans hy3).trans hxk⟩
set_option maxRecDepth 100000 in
set_option maxHeartbeats 16000000 in
theorem fewestL_e3 (v : Value) (c : Roads) (pv : Value) (P : List (List Int)) (w : World) (hR : RoadsAt w v c) (hP : RowsAt w pv P) (ht : TabOk w) (hs : shortB c = true) (hli : listsB P = true) (hl0 : c.loads.length ≤ 1000) (hr : isRoadsB c = true) (hso : someP c P = false) : Calls Tryz.prog 6 #[v, pv] w (TrueP w) := by
  have hR' := hR
  have hP' := hP
  obtain ⟨lv, fv, rfl, hll, hff⟩ := hR
  obtain ⟨la, lk, rfl, l1, l2, _⟩ := hll.open
  obtain ⟨fa, fk, rfl, f1, f2, _⟩ := hff.open
  obtain ⟨pa, pk, rfl, p1, p2, _⟩ := hP.open
  have hx0 : Ext w (w.alloc (boxC c la fa lk fk)) := (Ext.refl w).alloc _
  have HX0 := Lib.hid hx0
  have HBC := Lib.hid (fun W (h : Ext (w.alloc (boxC c la fa lk fk)) W) => boxC_cells ((h.block (by simp)).trans (World.alloc_heap_new w (boxC c la fa lk fk))))
  have HSH := Lib.hid (fun w1 (hx : Ext w w1) => short_any _ c w1 (hR'.ext hx))
  have HLI := Lib.hid (fun w1 (hx : Ext w w1) => lists_any _ P w1 (hP'.ext hx))
  have HSO := Lib.hid (fun w1 (hx : Ext w w1) => lsome_any _ _ c P w1 (hR'.ext hx) (hP'.ext hx))
  have HL := Lib.hid (fun w1 (hx : Ext w w1) => lknown_any w1 (ht.ext hx))
  have HRO := Lib.hid (fun w1 (hx : Ext w w1) => rroads_any _ c w1 (hR'.ext hx) hl0)
  rw [hs] at HSH
  rw [hli] at HLI
  rw [hr] at HRO
  rw [hso] at HSO
  have hmix : Tryz.prog.follows .mixedOrders = true := by kernel_rfl
  clear hR' hP' hll hff hP hx0 ht hs hli hl0 hr hso
  go_enter Tryz.func6, Tryz.ntmps6
  obtain ⟨z0, z1, z2⟩ := HBC.out _ (Ext.refl _)
  go_wp2_with (first
    | (go_at_call 11; refine (HSH.out _ HX0.out).mono ?_; rintro e w1 ⟨rfl, hx1⟩; have hy1 := Ext.trans (Ext.refl (w.alloc (boxC c la fa lk fk))) hx1; clear HSH; clear z0 z1 z2; obtain ⟨z0, z1, z2⟩ := HBC.out _ hy1)
    | (go_at_call 21; refine (HLI.out _ (HX0.out.trans hy1)).mono ?_; rintro e w2 ⟨rfl, hx2⟩; have hy2 := Ext.trans hy1 hx2; clear HLI; clear z0 z1 z2; obtain ⟨z0, z1, z2⟩ := HBC.out _ hy2)
    | (go_at_call 14; refine (HRO.out _ (HX0.out.trans hy2)).mono ?_; rintro e w3 ⟨rfl, hx3⟩; have hy3 := Ext.trans hy2 hx3; clear HRO; clear z0 z1 z2; obtain ⟨z0, z1, z2⟩ := HBC.out _ hy3)
    | (go_at_call 23; refine (HSO.out _ (HX0.out.trans hy3)).mono ?_; rintro e w4 ⟨rfl, hx4⟩; have hy4 := Ext.trans hy3 hx4; clear HSO; clear z0 z1 z2; obtain ⟨z0, z1, z2⟩ := HBC.out _ hy4)
    | (go_at_call 12; refine (HL.out _ (HX0.out.trans hy4)).mono ?_; rintro e wk ⟨rfl, hxk⟩))
  go_ret
  exact ⟨rfl, (HX0.out.trans hy4).trans hxk⟩
set_option maxRecDepth 100000 in
set_option maxHeartbeats 16000000 in
theorem fewestL_e4 (v : Value) (c : Roads) (pv : Value) (P : List (List Int)) (w : World) (hR : RoadsAt w v c) (hP : RowsAt w pv P) (ht : TabOk w) (hs : shortB c = true) (hli : listsB P = true) (hl0 : c.loads.length ≤ 1000) (hr : isRoadsB c = true) (hso : someP c P = true) (hh : c.bears < maxL c.loads) (hip : isPlanB c P = false) : Calls Tryz.prog 6 #[v, pv] w (TrueP w) := by
  have hR' := hR
  have hP' := hP
  obtain ⟨lv, fv, rfl, hll, hff⟩ := hR
  obtain ⟨la, lk, rfl, l1, l2, _⟩ := hll.open
  obtain ⟨fa, fk, rfl, f1, f2, _⟩ := hff.open
  obtain ⟨pa, pk, rfl, p1, p2, _⟩ := hP.open
  have hx0 : Ext w (w.alloc (boxC c la fa lk fk)) := (Ext.refl w).alloc _
  have HX0 := Lib.hid hx0
  have HBC := Lib.hid (fun W (h : Ext (w.alloc (boxC c la fa lk fk)) W) => boxC_cells ((h.block (by simp)).trans (World.alloc_heap_new w (boxC c la fa lk fk))))
  have HSH := Lib.hid (fun w1 (hx : Ext w w1) => short_any _ c w1 (hR'.ext hx))
  have HLI := Lib.hid (fun w1 (hx : Ext w w1) => lists_any _ P w1 (hP'.ext hx))
  have HSO := Lib.hid (fun w1 (hx : Ext w w1) => lsome_any _ _ c P w1 (hR'.ext hx) (hP'.ext hx))
  have HL := Lib.hid (fun w1 (hx : Ext w w1) => lknown_any w1 (ht.ext hx))
  have HRO := Lib.hid (fun w1 (hx : Ext w w1) => rroads_any _ c w1 (hR'.ext hx) hl0)
  rw [hs] at HSH
  rw [hli] at HLI
  rw [hr] at HRO
  rw [hso] at HSO
  have HPL := Lib.hid (fun w1 (hx : Ext w w1) => (plan_any _ c w1 (hR'.ext hx)).mono (R' := fun e w' => e = .returned (.tuple #[.slice none 0 0, .int .i64 0, .int .i64 5]) ∧ Ext w1 w') (fun e w' h => by
    obtain ⟨nv, d, err, rfl, hx, hq⟩ := h
    rw [if_neg (by rw [hr]; simp), if_pos hh] at hq
    obtain ⟨rfl, rfl, rfl⟩ := hq
    exact ⟨rfl, hx⟩))
  have HKE := Lib.hid (fun w1 (hx : Ext w w1) => (keeps_any _ _ c P w1 (hR'.ext hx) (hP'.ext hx) (lists_bd hli)).mono (R' := fun e w' => e = .returned (.tuple #[.bool false, .int .i64 0, .int .i64 0]) ∧ Ext w1 w') (fun e w' h => by
    obtain ⟨b, d, err, rfl, hx, k1, k2⟩ := h
    obtain ⟨rfl, hb, k3, k4⟩ := k2 hr hso
    rw [hip] at hb
    subst hb
    obtain rfl := k4 rfl
    exact ⟨rfl, hx⟩))
  have hmix : Tryz.prog.follows .mixedOrders = true := by kernel_rfl
  clear hR' hP' hll hff hP hx0 ht hs hli hl0 hr hso hh hip
  go_enter Tryz.func6, Tryz.ntmps6
  obtain ⟨z0, z1, z2⟩ := HBC.out _ (Ext.refl _)
  go_wp2_with (first
    | (go_at_call 11; refine (HSH.out _ HX0.out).mono ?_; rintro e w1 ⟨rfl, hx1⟩; have hy1 := Ext.trans (Ext.refl (w.alloc (boxC c la fa lk fk))) hx1; clear HSH; clear z0 z1 z2; obtain ⟨z0, z1, z2⟩ := HBC.out _ hy1)
    | (go_at_call 21; refine (HLI.out _ (HX0.out.trans hy1)).mono ?_; rintro e w2 ⟨rfl, hx2⟩; have hy2 := Ext.trans hy1 hx2; clear HLI; clear z0 z1 z2; obtain ⟨z0, z1, z2⟩ := HBC.out _ hy2)
    | (go_at_call 14; refine (HRO.out _ (HX0.out.trans hy2)).mono ?_; rintro e w3 ⟨rfl, hx3⟩; have hy3 := Ext.trans hy2 hx3; clear HRO; clear z0 z1 z2; obtain ⟨z0, z1, z2⟩ := HBC.out _ hy3)
    | (go_at_call 23; refine (HSO.out _ (HX0.out.trans hy3)).mono ?_; rintro e w4 ⟨rfl, hx4⟩; have hy4 := Ext.trans hy3 hx4; clear HSO; clear z0 z1 z2; obtain ⟨z0, z1, z2⟩ := HBC.out _ hy4)
    | (go_at_call 13; refine (HPL.out _ (HX0.out.trans hy4)).mono ?_; rintro e w5 ⟨rfl, hx5⟩; have hy5 := Ext.trans hy4 hx5; clear HPL; clear z0 z1 z2; obtain ⟨z0, z1, z2⟩ := HBC.out _ hy5)
    | (go_at_call 22; refine (HKE.out _ (HX0.out.trans hy5)).mono ?_; rintro e w6 ⟨rfl, hx6⟩; have hy6 := Ext.trans hy5 hx6; clear HKE; clear z0 z1 z2; obtain ⟨z0, z1, z2⟩ := HBC.out _ hy6)
    | (go_at_call 12; refine (HL.out _ (HX0.out.trans hy6)).mono ?_; rintro e wk ⟨rfl, hxk⟩))
  go_ret
  exact ⟨rfl, (HX0.out.trans hy6).trans hxk⟩
set_option maxRecDepth 100000 in
set_option maxHeartbeats 16000000 in
theorem fewestL_l0 (v : Value) (c : Roads) (pv : Value) (P : List (List Int)) (w : World) (hR : RoadsAt w v c) (hP : RowsAt w pv P) (ht : TabOk w) (hs : shortB c = true) (hli : listsB P = true) (hl0 : c.loads.length ≤ 1000) (hr : isRoadsB c = true) (hso : someP c P = true) (hh : ¬ c.bears < maxL c.loads) (p : List (List Int)) (hbp : bestPlan c = some p) (hp7 : p.length ≤ 7 ∧ ∀ l, l ∈ p → l.length ≤ 7) (hps : someP c p = true) (hpp : isPlanB c p = true) (hip : isPlanB c P = false) : Calls Tryz.prog 6 #[v, pv] w (TrueP w) := by
  have hR' := hR
  have hP' := hP
  obtain ⟨lv, fv, rfl, hll, hff⟩ := hR
  obtain ⟨la, lk, rfl, l1, l2, _⟩ := hll.open
  obtain ⟨fa, fk, rfl, f1, f2, _⟩ := hff.open
  obtain ⟨pa, pk, rfl, p1, p2, _⟩ := hP.open
  have hx0 : Ext w (w.alloc (boxC c la fa lk fk)) := (Ext.refl w).alloc _
  have HX0 := Lib.hid hx0
  have HBC := Lib.hid (fun W (h : Ext (w.alloc (boxC c la fa lk fk)) W) => boxC_cells ((h.block (by simp)).trans (World.alloc_heap_new w (boxC c la fa lk fk))))
  have HSH := Lib.hid (fun w1 (hx : Ext w w1) => short_any _ c w1 (hR'.ext hx))
  have HLI := Lib.hid (fun w1 (hx : Ext w w1) => lists_any _ P w1 (hP'.ext hx))
  have HSO := Lib.hid (fun w1 (hx : Ext w w1) => lsome_any _ _ c P w1 (hR'.ext hx) (hP'.ext hx))
  have HL := Lib.hid (fun w1 (hx : Ext w w1) => lknown_any w1 (ht.ext hx))
  have HRO := Lib.hid (fun w1 (hx : Ext w w1) => rroads_any _ c w1 (hR'.ext hx) hl0)
  rw [hs] at HSH
  rw [hli] at HLI
  rw [hr] at HRO
  rw [hso] at HSO
  have HPL := Lib.hid (fun w1 (hx : Ext w w1) => (plan_any _ c w1 (hR'.ext hx)).mono (R' := fun e w' => ∃ pa pc, e = .returned (.tuple #[.slice pa p.length pc, .int .i64 (planLen c p), .int .i64 0]) ∧ Ext w1 w' ∧ RowsAt w' (.slice pa p.length pc) p) (fun e w' h => by
    obtain ⟨nv, d, err, rfl, hx, hq⟩ := h
    rw [if_neg (by rw [hr]; simp), if_neg hh, hbp] at hq
    obtain ⟨rfl, rfl, hrow⟩ := hq
    obtain ⟨pa, pc, rfl, _⟩ := hrow.open
    exact ⟨pa, pc, rfl, hx, hrow⟩))
  have HLI2 := Lib.hid (fun w1 (_ : Ext w w1) vb (hb : RowsAt w1 vb p) => lists_any vb p w1 hb)
  have HSO2 := Lib.hid (fun w1 (hx : Ext w w1) vb (hb : RowsAt w1 vb p) => lsome_any _ vb c p w1 (hR'.ext hx) hb)
  rw [lists_of hp7.1 hp7.2] at HLI2
  rw [hps] at HSO2
  have HKE2 := Lib.hid (fun w1 (hx : Ext w w1) vb (hb : RowsAt w1 vb p) => (keeps_any _ _ c p w1 (hR'.ext hx) hb hp7).mono (R' := fun e w' => e = .returned (.tuple #[.bool true, .int .i64 (planLen c p), .int .i64 0]) ∧ Ext w1 w') (fun e w' h => by
    obtain ⟨b, d, err, rfl, hx, k1, k2⟩ := h
    obtain ⟨rfl, hb, k3, k4⟩ := k2 hr hps
    rw [hpp] at hb
    subst hb
    obtain rfl := k3 rfl
    exact ⟨rfl, hx⟩))
  have HKE := Lib.hid (fun w1 (hx : Ext w w1) => (keeps_any _ _ c P w1 (hR'.ext hx) (hP'.ext hx) (lists_bd hli)).mono (R' := fun e w' => e = .returned (.tuple #[.bool false, .int .i64 0, .int .i64 0]) ∧ Ext w1 w') (fun e w' h => by
    obtain ⟨b, d, err, rfl, hx, k1, k2⟩ := h
    obtain ⟨rfl, hb, k3, k4⟩ := k2 hr hso
    rw [hip] at hb
    subst hb
    obtain rfl := k4 rfl
    exact ⟨rfl, hx⟩))
  have hmix : Tryz.prog.follows .mixedOrders = true := by kernel_rfl
  clear hR' hP' hll hff hP hx0 ht hs hli hl0 hr hso hh hbp hp7 hps hpp hip
  go_enter Tryz.func6, Tryz.ntmps6
  obtain ⟨z0, z1, z2⟩ := HBC.out _ (Ext.refl _)
  go_wp2_with (first
    | (go_at_call 11; refine (HSH.out _ HX0.out).mono ?_; rintro e w1 ⟨rfl, hx1⟩; have hy1 := Ext.trans (Ext.refl (w.alloc (boxC c la fa lk fk))) hx1; clear HSH; clear z0 z1 z2; obtain ⟨z0, z1, z2⟩ := HBC.out _ hy1)
    | (go_at_call 21; refine (HLI.out _ (HX0.out.trans hy1)).mono ?_; rintro e w2 ⟨rfl, hx2⟩; have hy2 := Ext.trans hy1 hx2; clear HLI; clear z0 z1 z2; obtain ⟨z0, z1, z2⟩ := HBC.out _ hy2)
    | (go_at_call 14; refine (HRO.out _ (HX0.out.trans hy2)).mono ?_; rintro e w3 ⟨rfl, hx3⟩; have hy3 := Ext.trans hy2 hx3; clear HRO; clear z0 z1 z2; obtain ⟨z0, z1, z2⟩ := HBC.out _ hy3)
    | (go_at_call 23; refine (HSO.out _ (HX0.out.trans hy3)).mono ?_; rintro e w4 ⟨rfl, hx4⟩; have hy4 := Ext.trans hy3 hx4; clear HSO; clear z0 z1 z2; obtain ⟨z0, z1, z2⟩ := HBC.out _ hy4)
    | (go_at_call 13; refine (HPL.out _ (HX0.out.trans hy4)).mono ?_; rintro e w5 ⟨qa, qc, rfl, hx5, hp5⟩; have hy5 := Ext.trans hy4 hx5; have HP5 := Lib.hid hp5; clear hp5; clear HPL; clear z0 z1 z2; obtain ⟨z0, z1, z2⟩ := HBC.out _ hy5)
    | (go_at_call 22; refine (HKE.out _ (HX0.out.trans hy5)).mono ?_; rintro e w6 ⟨rfl, hx6⟩; have hy6 := Ext.trans hy5 hx6; clear HKE; clear z0 z1 z2; obtain ⟨z0, z1, z2⟩ := HBC.out _ hy6)
    | (go_at_call 21; refine (HLI2.out _ (HX0.out.trans hy6) _ (HP5.out.ext hx6)).mono ?_; rintro e w7 ⟨rfl, hx7⟩; have hy7 := Ext.trans hy6 hx7; clear HLI2; clear z0 z1 z2; obtain ⟨z0, z1, z2⟩ := HBC.out _ hy7)
    | (go_at_call 23; refine (HSO2.out _ (HX0.out.trans hy7) _ ((HP5.out.ext hx6).ext hx7)).mono ?_; rintro e w8 ⟨rfl, hx8⟩; have hy8 := Ext.trans hy7 hx8; clear HSO2; clear z0 z1 z2; obtain ⟨z0, z1, z2⟩ := HBC.out _ hy8)
    | (go_at_call 22; refine (HKE2.out _ (HX0.out.trans hy8) _ (((HP5.out.ext hx6).ext hx7).ext hx8)).mono ?_; rintro e w9 ⟨rfl, hx9⟩; have hy9 := Ext.trans hy8 hx9; clear HKE2; clear z0 z1 z2; obtain ⟨z0, z1, z2⟩ := HBC.out _ hy9)
    | (go_at_call 12; refine (HL.out _ (HX0.out.trans hy9)).mono ?_; rintro e wk ⟨rfl, hxk⟩))
  go_ret
  exact ⟨rfl, (HX0.out.trans hy9).trans hxk⟩
set_option maxRecDepth 100000 in
set_option maxHeartbeats 16000000 in
theorem fewestL_l1 (v : Value) (c : Roads) (pv : Value) (P : List (List Int)) (w : World) (hR : RoadsAt w v c) (hP : RowsAt w pv P) (ht : TabOk w) (hs : shortB c = true) (hli : listsB P = true) (hl0 : c.loads.length ≤ 1000) (hr : isRoadsB c = true) (hso : someP c P = true) (hh : ¬ c.bears < maxL c.loads) (p : List (List Int)) (hbp : bestPlan c = some p) (hp7 : p.length ≤ 7 ∧ ∀ l, l ∈ p → l.length ≤ 7) (hps : someP c p = true) (hpp : isPlanB c p = true) (hip : isPlanB c P = true) (hlen : p.length < P.length) : Calls Tryz.prog 6 #[v, pv] w (TrueP w) := by
  have hR' := hR
  have hP' := hP
  obtain ⟨lv, fv, rfl, hll, hff⟩ := hR
  obtain ⟨la, lk, rfl, l1, l2, _⟩ := hll.open
  obtain ⟨fa, fk, rfl, f1, f2, _⟩ := hff.open
  obtain ⟨pa, pk, rfl, p1, p2, _⟩ := hP.open
  have hx0 : Ext w (w.alloc (boxC c la fa lk fk)) := (Ext.refl w).alloc _
  have HX0 := Lib.hid hx0
  have HBC := Lib.hid (fun W (h : Ext (w.alloc (boxC c la fa lk fk)) W) => boxC_cells ((h.block (by simp)).trans (World.alloc_heap_new w (boxC c la fa lk fk))))
  have HSH := Lib.hid (fun w1 (hx : Ext w w1) => short_any _ c w1 (hR'.ext hx))
  have HLI := Lib.hid (fun w1 (hx : Ext w w1) => lists_any _ P w1 (hP'.ext hx))
  have HSO := Lib.hid (fun w1 (hx : Ext w w1) => lsome_any _ _ c P w1 (hR'.ext hx) (hP'.ext hx))
  have HL := Lib.hid (fun w1 (hx : Ext w w1) => lknown_any w1 (ht.ext hx))
  have HRO := Lib.hid (fun w1 (hx : Ext w w1) => rroads_any _ c w1 (hR'.ext hx) hl0)
  rw [hs] at HSH
  rw [hli] at HLI
  rw [hr] at HRO
  rw [hso] at HSO
  have HPL := Lib.hid (fun w1 (hx : Ext w w1) => (plan_any _ c w1 (hR'.ext hx)).mono (R' := fun e w' => ∃ pa pc, e = .returned (.tuple #[.slice pa p.length pc, .int .i64 (planLen c p), .int .i64 0]) ∧ Ext w1 w' ∧ RowsAt w' (.slice pa p.length pc) p) (fun e w' h => by
    obtain ⟨nv, d, err, rfl, hx, hq⟩ := h
    rw [if_neg (by rw [hr]; simp), if_neg hh, hbp] at hq
    obtain ⟨rfl, rfl, hrow⟩ := hq
    obtain ⟨pa, pc, rfl, _⟩ := hrow.open
    exact ⟨pa, pc, rfl, hx, hrow⟩))
  have HLI2 := Lib.hid (fun w1 (_ : Ext w w1) vb (hb : RowsAt w1 vb p) => lists_any vb p w1 hb)
  have HSO2 := Lib.hid (fun w1 (hx : Ext w w1) vb (hb : RowsAt w1 vb p) => lsome_any _ vb c p w1 (hR'.ext hx) hb)
  rw [lists_of hp7.1 hp7.2] at HLI2
  rw [hps] at HSO2
  have HKE2 := Lib.hid (fun w1 (hx : Ext w w1) vb (hb : RowsAt w1 vb p) => (keeps_any _ _ c p w1 (hR'.ext hx) hb hp7).mono (R' := fun e w' => e = .returned (.tuple #[.bool true, .int .i64 (planLen c p), .int .i64 0]) ∧ Ext w1 w') (fun e w' h => by
    obtain ⟨b, d, err, rfl, hx, k1, k2⟩ := h
    obtain ⟨rfl, hb, k3, k4⟩ := k2 hr hps
    rw [hpp] at hb
    subst hb
    obtain rfl := k3 rfl
    exact ⟨rfl, hx⟩))
  have HKE := Lib.hid (fun w1 (hx : Ext w w1) => (keeps_any _ _ c P w1 (hR'.ext hx) (hP'.ext hx) (lists_bd hli)).mono (R' := fun e w' => e = .returned (.tuple #[.bool true, .int .i64 (planLen c P), .int .i64 0]) ∧ Ext w1 w') (fun e w' h => by
    obtain ⟨b, d, err, rfl, hx, k1, k2⟩ := h
    obtain ⟨rfl, hb, k3, k4⟩ := k2 hr hso
    rw [hip] at hb
    subst hb
    obtain rfl := k3 rfl
    exact ⟨rfl, hx⟩))
  have t1 : decide ((p.length : Int) < (P.length : Int)) = true := by simpa using hlen
  have t1n : decide (p.length < P.length) = true := by simpa using hlen
  have hmix : Tryz.prog.follows .mixedOrders = true := by kernel_rfl
  clear hR' hP' hll hff hP hx0 ht hs hli hl0 hr hso hh hbp hp7 hps hpp hip hlen
  go_enter Tryz.func6, Tryz.ntmps6
  obtain ⟨z0, z1, z2⟩ := HBC.out _ (Ext.refl _)
  go_wp2_with (first
    | (go_at_call 11; refine (HSH.out _ HX0.out).mono ?_; rintro e w1 ⟨rfl, hx1⟩; have hy1 := Ext.trans (Ext.refl (w.alloc (boxC c la fa lk fk))) hx1; clear HSH; clear z0 z1 z2; obtain ⟨z0, z1, z2⟩ := HBC.out _ hy1)
    | (go_at_call 21; refine (HLI.out _ (HX0.out.trans hy1)).mono ?_; rintro e w2 ⟨rfl, hx2⟩; have hy2 := Ext.trans hy1 hx2; clear HLI; clear z0 z1 z2; obtain ⟨z0, z1, z2⟩ := HBC.out _ hy2)
    | (go_at_call 14; refine (HRO.out _ (HX0.out.trans hy2)).mono ?_; rintro e w3 ⟨rfl, hx3⟩; have hy3 := Ext.trans hy2 hx3; clear HRO; clear z0 z1 z2; obtain ⟨z0, z1, z2⟩ := HBC.out _ hy3)
    | (go_at_call 23; refine (HSO.out _ (HX0.out.trans hy3)).mono ?_; rintro e w4 ⟨rfl, hx4⟩; have hy4 := Ext.trans hy3 hx4; clear HSO; clear z0 z1 z2; obtain ⟨z0, z1, z2⟩ := HBC.out _ hy4)
    | (go_at_call 13; refine (HPL.out _ (HX0.out.trans hy4)).mono ?_; rintro e w5 ⟨qa, qc, rfl, hx5, hp5⟩; have hy5 := Ext.trans hy4 hx5; have HP5 := Lib.hid hp5; clear hp5; clear HPL; clear z0 z1 z2; obtain ⟨z0, z1, z2⟩ := HBC.out _ hy5)
    | (go_at_call 22; refine (HKE.out _ (HX0.out.trans hy5)).mono ?_; rintro e w6 ⟨rfl, hx6⟩; have hy6 := Ext.trans hy5 hx6; clear HKE; clear z0 z1 z2; obtain ⟨z0, z1, z2⟩ := HBC.out _ hy6)
    | (go_at_call 21; refine (HLI2.out _ (HX0.out.trans hy6) _ (HP5.out.ext hx6)).mono ?_; rintro e w7 ⟨rfl, hx7⟩; have hy7 := Ext.trans hy6 hx7; clear HLI2; clear z0 z1 z2; obtain ⟨z0, z1, z2⟩ := HBC.out _ hy7)
    | (go_at_call 23; refine (HSO2.out _ (HX0.out.trans hy7) _ ((HP5.out.ext hx6).ext hx7)).mono ?_; rintro e w8 ⟨rfl, hx8⟩; have hy8 := Ext.trans hy7 hx8; clear HSO2; clear z0 z1 z2; obtain ⟨z0, z1, z2⟩ := HBC.out _ hy8)
    | (go_at_call 22; refine (HKE2.out _ (HX0.out.trans hy8) _ (((HP5.out.ext hx6).ext hx7).ext hx8)).mono ?_; rintro e w9 ⟨rfl, hx9⟩; have hy9 := Ext.trans hy8 hx9; clear HKE2; clear z0 z1 z2; obtain ⟨z0, z1, z2⟩ := HBC.out _ hy9)
    | (go_at_call 12; refine (HL.out _ (HX0.out.trans hy9)).mono ?_; rintro e wk ⟨rfl, hxk⟩))
  go_ret
  exact ⟨rfl, (HX0.out.trans hy9).trans hxk⟩
set_option maxRecDepth 100000 in
set_option maxHeartbeats 16000000 in
theorem fewestL_l2 (v : Value) (c : Roads) (pv : Value) (P : List (List Int)) (w : World) (hR : RoadsAt w v c) (hP : RowsAt w pv P) (ht : TabOk w) (hs : shortB c = true) (hli : listsB P = true) (hl0 : c.loads.length ≤ 1000) (hr : isRoadsB c = true) (hso : someP c P = true) (hh : ¬ c.bears < maxL c.loads) (p : List (List Int)) (hbp : bestPlan c = some p) (hp7 : p.length ≤ 7 ∧ ∀ l, l ∈ p → l.length ≤ 7) (hps : someP c p = true) (hpp : isPlanB c p = true) (hip : isPlanB c P = true) (hlen : P.length = p.length) (hlt : planLen c p < planLen c P) : Calls Tryz.prog 6 #[v, pv] w (TrueP w) := by
  have hR' := hR
  have hP' := hP
  obtain ⟨lv, fv, rfl, hll, hff⟩ := hR
  obtain ⟨la, lk, rfl, l1, l2, _⟩ := hll.open
  obtain ⟨fa, fk, rfl, f1, f2, _⟩ := hff.open
  obtain ⟨pa, pk, rfl, p1, p2, _⟩ := hP.open
  have hx0 : Ext w (w.alloc (boxC c la fa lk fk)) := (Ext.refl w).alloc _
  have HX0 := Lib.hid hx0
  have HBC := Lib.hid (fun W (h : Ext (w.alloc (boxC c la fa lk fk)) W) => boxC_cells ((h.block (by simp)).trans (World.alloc_heap_new w (boxC c la fa lk fk))))
  have HSH := Lib.hid (fun w1 (hx : Ext w w1) => short_any _ c w1 (hR'.ext hx))
  have HLI := Lib.hid (fun w1 (hx : Ext w w1) => lists_any _ P w1 (hP'.ext hx))
  have HSO := Lib.hid (fun w1 (hx : Ext w w1) => lsome_any _ _ c P w1 (hR'.ext hx) (hP'.ext hx))
  have HL := Lib.hid (fun w1 (hx : Ext w w1) => lknown_any w1 (ht.ext hx))
  have HRO := Lib.hid (fun w1 (hx : Ext w w1) => rroads_any _ c w1 (hR'.ext hx) hl0)
  rw [hs] at HSH
  rw [hli] at HLI
  rw [hr] at HRO
  rw [hso] at HSO
  have HPL := Lib.hid (fun w1 (hx : Ext w w1) => (plan_any _ c w1 (hR'.ext hx)).mono (R' := fun e w' => ∃ pa pc, e = .returned (.tuple #[.slice pa p.length pc, .int .i64 (planLen c p), .int .i64 0]) ∧ Ext w1 w' ∧ RowsAt w' (.slice pa p.length pc) p) (fun e w' h => by
    obtain ⟨nv, d, err, rfl, hx, hq⟩ := h
    rw [if_neg (by rw [hr]; simp), if_neg hh, hbp] at hq
    obtain ⟨rfl, rfl, hrow⟩ := hq
    obtain ⟨pa, pc, rfl, _⟩ := hrow.open
    exact ⟨pa, pc, rfl, hx, hrow⟩))
  have HLI2 := Lib.hid (fun w1 (_ : Ext w w1) vb (hb : RowsAt w1 vb p) => lists_any vb p w1 hb)
  have HSO2 := Lib.hid (fun w1 (hx : Ext w w1) vb (hb : RowsAt w1 vb p) => lsome_any _ vb c p w1 (hR'.ext hx) hb)
  rw [lists_of hp7.1 hp7.2] at HLI2
  rw [hps] at HSO2
  have HKE2 := Lib.hid (fun w1 (hx : Ext w w1) vb (hb : RowsAt w1 vb p) => (keeps_any _ _ c p w1 (hR'.ext hx) hb hp7).mono (R' := fun e w' => e = .returned (.tuple #[.bool true, .int .i64 (planLen c p), .int .i64 0]) ∧ Ext w1 w') (fun e w' h => by
    obtain ⟨b, d, err, rfl, hx, k1, k2⟩ := h
    obtain ⟨rfl, hb, k3, k4⟩ := k2 hr hps
    rw [hpp] at hb
    subst hb
    obtain rfl := k3 rfl
    exact ⟨rfl, hx⟩))
  have HKE := Lib.hid (fun w1 (hx : Ext w w1) => (keeps_any _ _ c P w1 (hR'.ext hx) (hP'.ext hx) (lists_bd hli)).mono (R' := fun e w' => e = .returned (.tuple #[.bool true, .int .i64 (planLen c P), .int .i64 0]) ∧ Ext w1 w') (fun e w' h => by
    obtain ⟨b, d, err, rfl, hx, k1, k2⟩ := h
    obtain ⟨rfl, hb, k3, k4⟩ := k2 hr hso
    rw [hip] at hb
    subst hb
    obtain rfl := k3 rfl
    exact ⟨rfl, hx⟩))
  have t1 : decide ((p.length : Int) < (P.length : Int)) = false := by simp; omega
  have t1n : decide (p.length < P.length) = false := by simp; omega
  have t2 : ((P.length : Int) == (p.length : Int)) = true := by rw [beq_iff_eq]; omega
  have t2n : (P.length == p.length) = true := by rw [beq_iff_eq]; omega
  have t3 : decide (planLen c p < planLen c P) = true := by simpa using hlt
  have hmix : Tryz.prog.follows .mixedOrders = true := by kernel_rfl
  clear hR' hP' hll hff hP hx0 ht hs hli hl0 hr hso hh hbp hp7 hps hpp hip hlen hlt
  go_enter Tryz.func6, Tryz.ntmps6
  obtain ⟨z0, z1, z2⟩ := HBC.out _ (Ext.refl _)
  go_wp2_with (first
    | (go_at_call 11; refine (HSH.out _ HX0.out).mono ?_; rintro e w1 ⟨rfl, hx1⟩; have hy1 := Ext.trans (Ext.refl (w.alloc (boxC c la fa lk fk))) hx1; clear HSH; clear z0 z1 z2; obtain ⟨z0, z1, z2⟩ := HBC.out _ hy1)
    | (go_at_call 21; refine (HLI.out _ (HX0.out.trans hy1)).mono ?_; rintro e w2 ⟨rfl, hx2⟩; have hy2 := Ext.trans hy1 hx2; clear HLI; clear z0 z1 z2; obtain ⟨z0, z1, z2⟩ := HBC.out _ hy2)
    | (go_at_call 14; refine (HRO.out _ (HX0.out.trans hy2)).mono ?_; rintro e w3 ⟨rfl, hx3⟩; have hy3 := Ext.trans hy2 hx3; clear HRO; clear z0 z1 z2; obtain ⟨z0, z1, z2⟩ := HBC.out _ hy3)
    | (go_at_call 23; refine (HSO.out _ (HX0.out.trans hy3)).mono ?_; rintro e w4 ⟨rfl, hx4⟩; have hy4 := Ext.trans hy3 hx4; clear HSO; clear z0 z1 z2; obtain ⟨z0, z1, z2⟩ := HBC.out _ hy4)
    | (go_at_call 13; refine (HPL.out _ (HX0.out.trans hy4)).mono ?_; rintro e w5 ⟨qa, qc, rfl, hx5, hp5⟩; have hy5 := Ext.trans hy4 hx5; have HP5 := Lib.hid hp5; clear hp5; clear HPL; clear z0 z1 z2; obtain ⟨z0, z1, z2⟩ := HBC.out _ hy5)
    | (go_at_call 22; refine (HKE.out _ (HX0.out.trans hy5)).mono ?_; rintro e w6 ⟨rfl, hx6⟩; have hy6 := Ext.trans hy5 hx6; clear HKE; clear z0 z1 z2; obtain ⟨z0, z1, z2⟩ := HBC.out _ hy6)
    | (go_at_call 21; refine (HLI2.out _ (HX0.out.trans hy6) _ (HP5.out.ext hx6)).mono ?_; rintro e w7 ⟨rfl, hx7⟩; have hy7 := Ext.trans hy6 hx7; clear HLI2; clear z0 z1 z2; obtain ⟨z0, z1, z2⟩ := HBC.out _ hy7)
    | (go_at_call 23; refine (HSO2.out _ (HX0.out.trans hy7) _ ((HP5.out.ext hx6).ext hx7)).mono ?_; rintro e w8 ⟨rfl, hx8⟩; have hy8 := Ext.trans hy7 hx8; clear HSO2; clear z0 z1 z2; obtain ⟨z0, z1, z2⟩ := HBC.out _ hy8)
    | (go_at_call 22; refine (HKE2.out _ (HX0.out.trans hy8) _ (((HP5.out.ext hx6).ext hx7).ext hx8)).mono ?_; rintro e w9 ⟨rfl, hx9⟩; have hy9 := Ext.trans hy8 hx9; clear HKE2; clear z0 z1 z2; obtain ⟨z0, z1, z2⟩ := HBC.out _ hy9)
    | (go_at_call 12; refine (HL.out _ (HX0.out.trans hy9)).mono ?_; rintro e wk ⟨rfl, hxk⟩))
  go_ret
  exact ⟨rfl, (HX0.out.trans hy9).trans hxk⟩
set_option maxRecDepth 100000 in
set_option maxHeartbeats 16000000 in
theorem fewestL_l3 (v : Value) (c : Roads) (pv : Value) (P : List (List Int)) (w : World) (hR : RoadsAt w v c) (hP : RowsAt w pv P) (ht : TabOk w) (hs : shortB c = true) (hli : listsB P = true) (hl0 : c.loads.length ≤ 1000) (hr : isRoadsB c = true) (hso : someP c P = true) (hh : ¬ c.bears < maxL c.loads) (p : List (List Int)) (hbp : bestPlan c = some p) (hp7 : p.length ≤ 7 ∧ ∀ l, l ∈ p → l.length ≤ 7) (hps : someP c p = true) (hpp : isPlanB c p = true) (hip : isPlanB c P = true) (hlen : P.length = p.length) (heq : planLen c P = planLen c p) (hbf : befPB P p = false) : Calls Tryz.prog 6 #[v, pv] w (TrueP w) := by
  have hR' := hR
  have hP' := hP
  obtain ⟨lv, fv, rfl, hll, hff⟩ := hR
  obtain ⟨la, lk, rfl, l1, l2, _⟩ := hll.open
  obtain ⟨fa, fk, rfl, f1, f2, _⟩ := hff.open
  obtain ⟨pa, pk, rfl, p1, p2, _⟩ := hP.open
  have hx0 : Ext w (w.alloc (boxC c la fa lk fk)) := (Ext.refl w).alloc _
  have HX0 := Lib.hid hx0
  have HBC := Lib.hid (fun W (h : Ext (w.alloc (boxC c la fa lk fk)) W) => boxC_cells ((h.block (by simp)).trans (World.alloc_heap_new w (boxC c la fa lk fk))))
  have HSH := Lib.hid (fun w1 (hx : Ext w w1) => short_any _ c w1 (hR'.ext hx))
  have HLI := Lib.hid (fun w1 (hx : Ext w w1) => lists_any _ P w1 (hP'.ext hx))
  have HSO := Lib.hid (fun w1 (hx : Ext w w1) => lsome_any _ _ c P w1 (hR'.ext hx) (hP'.ext hx))
  have HL := Lib.hid (fun w1 (hx : Ext w w1) => lknown_any w1 (ht.ext hx))
  have HRO := Lib.hid (fun w1 (hx : Ext w w1) => rroads_any _ c w1 (hR'.ext hx) hl0)
  rw [hs] at HSH
  rw [hli] at HLI
  rw [hr] at HRO
  rw [hso] at HSO
  have HPL := Lib.hid (fun w1 (hx : Ext w w1) => (plan_any _ c w1 (hR'.ext hx)).mono (R' := fun e w' => ∃ pa pc, e = .returned (.tuple #[.slice pa p.length pc, .int .i64 (planLen c p), .int .i64 0]) ∧ Ext w1 w' ∧ RowsAt w' (.slice pa p.length pc) p) (fun e w' h => by
    obtain ⟨nv, d, err, rfl, hx, hq⟩ := h
    rw [if_neg (by rw [hr]; simp), if_neg hh, hbp] at hq
    obtain ⟨rfl, rfl, hrow⟩ := hq
    obtain ⟨pa, pc, rfl, _⟩ := hrow.open
    exact ⟨pa, pc, rfl, hx, hrow⟩))
  have HLI2 := Lib.hid (fun w1 (_ : Ext w w1) vb (hb : RowsAt w1 vb p) => lists_any vb p w1 hb)
  have HSO2 := Lib.hid (fun w1 (hx : Ext w w1) vb (hb : RowsAt w1 vb p) => lsome_any _ vb c p w1 (hR'.ext hx) hb)
  rw [lists_of hp7.1 hp7.2] at HLI2
  rw [hps] at HSO2
  have HKE2 := Lib.hid (fun w1 (hx : Ext w w1) vb (hb : RowsAt w1 vb p) => (keeps_any _ _ c p w1 (hR'.ext hx) hb hp7).mono (R' := fun e w' => e = .returned (.tuple #[.bool true, .int .i64 (planLen c p), .int .i64 0]) ∧ Ext w1 w') (fun e w' h => by
    obtain ⟨b, d, err, rfl, hx, k1, k2⟩ := h
    obtain ⟨rfl, hb, k3, k4⟩ := k2 hr hps
    rw [hpp] at hb
    subst hb
    obtain rfl := k3 rfl
    exact ⟨rfl, hx⟩))
  have HKE := Lib.hid (fun w1 (hx : Ext w w1) => (keeps_any _ _ c P w1 (hR'.ext hx) (hP'.ext hx) (lists_bd hli)).mono (R' := fun e w' => e = .returned (.tuple #[.bool true, .int .i64 (planLen c p), .int .i64 0]) ∧ Ext w1 w') (fun e w' h => by
    obtain ⟨b, d, err, rfl, hx, k1, k2⟩ := h
    obtain ⟨rfl, hb, k3, k4⟩ := k2 hr hso
    rw [hip] at hb
    subst hb
    have k5 := k3 rfl
    rw [heq] at k5
    obtain rfl := k5
    exact ⟨rfl, hx⟩))
  have t1 : decide ((p.length : Int) < (P.length : Int)) = false := by simp; omega
  have t1n : decide (p.length < P.length) = false := by simp; omega
  have t2 : ((P.length : Int) == (p.length : Int)) = true := by rw [beq_iff_eq]; omega
  have t2n : (P.length == p.length) = true := by rw [beq_iff_eq]; omega
  have t3 : decide (planLen c p < planLen c p) = false := by simp
  have t4 : (planLen c p == planLen c p) = true := by simp
  have HBP := Lib.hid (fun w1 (hx : Ext w w1) vb (hb : RowsAt w1 vb p) => rbefPlan_any _ vb P p w1 (hP'.ext hx) hb)
  rw [hbf] at HBP
  have hmix : Tryz.prog.follows .mixedOrders = true := by kernel_rfl
  clear hR' hP' hll hff hP hx0 ht hs hli hl0 hr hso hh hbp hp7 hps hpp hip hlen heq hbf
  go_enter Tryz.func6, Tryz.ntmps6
  obtain ⟨z0, z1, z2⟩ := HBC.out _ (Ext.refl _)
  go_wp2_with (first
    | (go_at_call 11; refine (HSH.out _ HX0.out).mono ?_; rintro e w1 ⟨rfl, hx1⟩; have hy1 := Ext.trans (Ext.refl (w.alloc (boxC c la fa lk fk))) hx1; clear HSH; clear z0 z1 z2; obtain ⟨z0, z1, z2⟩ := HBC.out _ hy1)
    | (go_at_call 21; refine (HLI.out _ (HX0.out.trans hy1)).mono ?_; rintro e w2 ⟨rfl, hx2⟩; have hy2 := Ext.trans hy1 hx2; clear HLI; clear z0 z1 z2; obtain ⟨z0, z1, z2⟩ := HBC.out _ hy2)
    | (go_at_call 14; refine (HRO.out _ (HX0.out.trans hy2)).mono ?_; rintro e w3 ⟨rfl, hx3⟩; have hy3 := Ext.trans hy2 hx3; clear HRO; clear z0 z1 z2; obtain ⟨z0, z1, z2⟩ := HBC.out _ hy3)
    | (go_at_call 23; refine (HSO.out _ (HX0.out.trans hy3)).mono ?_; rintro e w4 ⟨rfl, hx4⟩; have hy4 := Ext.trans hy3 hx4; clear HSO; clear z0 z1 z2; obtain ⟨z0, z1, z2⟩ := HBC.out _ hy4)
    | (go_at_call 13; refine (HPL.out _ (HX0.out.trans hy4)).mono ?_; rintro e w5 ⟨qa, qc, rfl, hx5, hp5⟩; have hy5 := Ext.trans hy4 hx5; have HP5 := Lib.hid hp5; clear hp5; clear HPL; clear z0 z1 z2; obtain ⟨z0, z1, z2⟩ := HBC.out _ hy5)
    | (go_at_call 22; refine (HKE.out _ (HX0.out.trans hy5)).mono ?_; rintro e w6 ⟨rfl, hx6⟩; have hy6 := Ext.trans hy5 hx6; clear HKE; clear z0 z1 z2; obtain ⟨z0, z1, z2⟩ := HBC.out _ hy6)
    | (go_at_call 21; refine (HLI2.out _ (HX0.out.trans hy6) _ (HP5.out.ext hx6)).mono ?_; rintro e w7 ⟨rfl, hx7⟩; have hy7 := Ext.trans hy6 hx7; clear HLI2; clear z0 z1 z2; obtain ⟨z0, z1, z2⟩ := HBC.out _ hy7)
    | (go_at_call 23; refine (HSO2.out _ (HX0.out.trans hy7) _ ((HP5.out.ext hx6).ext hx7)).mono ?_; rintro e w8 ⟨rfl, hx8⟩; have hy8 := Ext.trans hy7 hx8; clear HSO2; clear z0 z1 z2; obtain ⟨z0, z1, z2⟩ := HBC.out _ hy8)
    | (go_at_call 22; refine (HKE2.out _ (HX0.out.trans hy8) _ (((HP5.out.ext hx6).ext hx7).ext hx8)).mono ?_; rintro e w9 ⟨rfl, hx9⟩; have hy9 := Ext.trans hy8 hx9; clear HKE2; clear z0 z1 z2; obtain ⟨z0, z1, z2⟩ := HBC.out _ hy9)
    | (go_at_call 25; refine (HBP.out _ (HX0.out.trans hy9) _ ((((HP5.out.ext hx6).ext hx7).ext hx8).ext hx9)).mono ?_; rintro e w10 ⟨rfl, hx10⟩; have hy10 := Ext.trans hy9 hx10; clear HBP; clear z0 z1 z2; obtain ⟨z0, z1, z2⟩ := HBC.out _ hy10)
    | (go_at_call 12; refine (HL.out _ (HX0.out.trans hy10)).mono ?_; rintro e wk ⟨rfl, hxk⟩))
  go_ret
  exact ⟨rfl, (HX0.out.trans hy10).trans hxk⟩
theorem cardFewest_any (v : Value) (c : Roads) (pv : Value) (P : List (List Int)) (w : World) (hR : RoadsAt w v c) (hP : RowsAt w pv P) (ht : TabOk w) : Calls Tryz.prog 6 #[v, pv] w (TrueP w) := by
  cases hs : shortB c with
  | false => exact fewestL_e0 v c pv P w hR hP ht hs
  | true =>
  cases hli : listsB P with
  | false => exact fewestL_e1 v c pv P w hR hP ht hs hli
  | true =>
  have hl0 : c.loads.length ≤ 1000 := by
    simp only [shortB, Bool.and_eq_true, decide_eq_true_eq] at hs
    omega
  cases hr : isRoadsB c with
  | false => exact fewestL_e2 v c pv P w hR hP ht hs hli hl0 hr
  | true =>
  cases hso : someP c P with
  | false => exact fewestL_e3 v c pv P w hR hP ht hs hli hl0 hr hso
  | true =>
  have hB := roadsB_of hr
  have hst : StopsOk c P := someP_stop hso
  by_cases hh : c.bears < maxL c.loads
  · exact fewestL_e4 v c pv P w hR hP ht hs hli hl0 hr hso hh (no_plan hr hh hst)
  · obtain ⟨p, hbp⟩ := best_some hr hh
    have hsl : StopsL c p := by
      have h := refUp_stops hB hB.n2 (waysAll c).length
      rw [refUp_end hB (Nat.le_refl _), hbp] at h
      exact h
    have hp7 : p.length ≤ 7 ∧ ∀ l, l ∈ p → l.length ≤ 7 := ⟨by have := hsl.1; omega, fun l hl => by have := (hsl.2 l hl).2; omega⟩
    have hps : someP c p = true := someP_of (fun l hl => (hsl.2 l hl).1)
    have hpp := (best_plan_ok hB hbp).1
    cases hip : isPlanB c P with
    | false => exact fewestL_l0 v c pv P w hR hP ht hs hli hl0 hr hso hh p hbp hp7 hps hpp hip
    | true =>
      have hnow := fewest_now hB hbp hst hip
      rcases hnow with h | ⟨h1, h2 | ⟨h2, h3⟩⟩
      · exact fewestL_l1 v c pv P w hR hP ht hs hli hl0 hr hso hh p hbp hp7 hps hpp hip h
      · exact fewestL_l2 v c pv P w hR hP ht hs hli hl0 hr hso hh p hbp hp7 hps hpp hip h1.symm h2
      · refine fewestL_l3 v c pv P w hR hP ht hs hli hl0 hr hso hh p hbp hp7 hps hpp hip h1.symm h2.symm ?_
        rw [befPB_cmp h1.symm, decide_eq_false_iff_not]
        have := cmpLL_neg p P
        omega
end Go.Proofs.YtapkbonlijhmjaaGreatDoor
