/- The law CardMore: the early ways. -/
import Derived.Test.YtapkbonlijhmjaaGreatDoorMorep
import Derived.Test.YtapkbonlijhmjaaGreatDoorRroadsc
import Derived.Test.YtapkbonlijhmjaaGreatDoorHouses
namespace Go.Proofs.YtapkbonlijhmjaaGreatDoor
open Go.RowKit

set_option maxRecDepth 100000 in
set_option maxHeartbeats 16000000 in
theorem more_e0 (v : Value) (r : Round) (more : Int) (qv : Value) (q : Roads) (w : World) (hr : RoundAt w v r) (hR : RoadsAt w qv q) (ht : TabOk w) (hs : slimB r = false) : Calls Tryz.prog 4 #[v, .int .i64 more, qv] w (TrueP w) := by
  obtain ⟨hv, rfl, hh⟩ := hr
  have hr' : RoundAt w (.agg (r.cells hv).toArray) r := ⟨hv, rfl, hh⟩
  have hR' := hR
  obtain ⟨lv, fv, rfl, hll, hff⟩ := hR
  obtain ⟨a, c, rfl, h1, h2, h3⟩ := hh.open
  obtain ⟨la, lk, rfl, l1, l2, _⟩ := hll.open
  obtain ⟨fa, fk, rfl, f1, f2, _⟩ := hff.open
  have hx0 : Ext w ((w.alloc (boxD r a c)).alloc (boxC q la fa lk fk)) := ((Ext.refl w).alloc _).alloc _
  have HX0 := Lib.hid hx0
  have HSL := Lib.hid (fun w1 (hx : Ext ((w.alloc (boxD r a c)).alloc (boxC q la fa lk fk)) w1) => slim_any _ r w1 (hr'.ext (hx0.trans hx)))
  have HSH := Lib.hid (fun w1 (hx : Ext ((w.alloc (boxD r a c)).alloc (boxC q la fa lk fk)) w1) => short_any _ q w1 (hR'.ext (hx0.trans hx)))
  have HRR := Lib.hid (fun w1 (hx : Ext ((w.alloc (boxD r a c)).alloc (boxC q la fa lk fk)) w1) => rround_any _ r w1 (hr'.ext (hx0.trans hx)))
  have HRO0 := Lib.hid (fun (h0 : q.loads.length ≤ 1000) w1 (hx : Ext ((w.alloc (boxD r a c)).alloc (boxC q la fa lk fk)) w1) => rroads_any _ q w1 (hR'.ext (hx0.trans hx)) h0)
  have HL := Lib.hid (fun w1 (hx : Ext ((w.alloc (boxD r a c)).alloc (boxC q la fa lk fk)) w1) => lknown_any w1 (ht.ext (hx0.trans hx)))
  have HB := Lib.hid (fun W (h : Ext ((w.alloc (boxD r a c)).alloc (boxC q la fa lk fk)) W) => And.intro (round_cells ((h.block (by simp; omega)).trans (two_new w (boxD r a c) (boxC q la fa lk fk)).1)) (show W.cell? ⟨w.heap.size + 1, 0, none⟩ = some (.slice la q.loads.length lk) ∧ W.cell? ⟨w.heap.size + 1, 1, none⟩ = some (.int .i64 q.bears) ∧ W.cell? ⟨w.heap.size + 1, 2, none⟩ = some (.slice fa q.far.length fk) from
    boxC_cells ((h.block (b := w.heap.size + 1) (by simp)).trans (two_new w (boxD r a c) (boxC q la fa lk fk)).2)))
  have hmix : Tryz.prog.follows .mixedOrders = true := by kernel_rfl
  rw [hs] at HSL
  unfold Round.cells at *
  clear hr' hR' hh hll hff hx0 ht h3 hs HRO0
  go_enter Tryz.func4, Tryz.ntmps4
  go_upto_region 1 with fail
  obtain ⟨⟨z0, z1, z2, z3, z4, z5, z6, z7⟩, y0, y1, y2⟩ := HB.out _ (Ext.refl _)
  go_wp2_with (first
    | (go_at_call 18; refine (HSL.out _ (Ext.refl _)).mono ?_; rintro e w1 ⟨rfl, hx1⟩; have hy1 := Ext.trans (Ext.refl ((w.alloc (boxD r a c)).alloc (boxC q la fa lk fk))) hx1; clear z0 z1 z2 z3 z4 z5 z6 z7 y0 y1 y2; obtain ⟨⟨z0, z1, z2, z3, z4, z5, z6, z7⟩, y0, y1, y2⟩ := HB.out _ hy1)
    | (go_at_call 12; refine (HL.out _ hy1).mono ?_; rintro e wk ⟨rfl, hxk⟩))
  go_ret
  exact ⟨rfl, (HX0.out.trans hy1).trans hxk⟩
set_option maxRecDepth 100000 in
set_option maxHeartbeats 16000000 in
theorem more_e1 (v : Value) (r : Round) (more : Int) (qv : Value) (q : Roads) (w : World) (hr : RoundAt w v r) (hR : RoadsAt w qv q) (ht : TabOk w) (hs : slimB r = true) (hsh : shortB q = false) : Calls Tryz.prog 4 #[v, .int .i64 more, qv] w (TrueP w) := by
  obtain ⟨hv, rfl, hh⟩ := hr
  have hr' : RoundAt w (.agg (r.cells hv).toArray) r := ⟨hv, rfl, hh⟩
  have hR' := hR
  obtain ⟨lv, fv, rfl, hll, hff⟩ := hR
  obtain ⟨a, c, rfl, h1, h2, h3⟩ := hh.open
  obtain ⟨la, lk, rfl, l1, l2, _⟩ := hll.open
  obtain ⟨fa, fk, rfl, f1, f2, _⟩ := hff.open
  have hx0 : Ext w ((w.alloc (boxD r a c)).alloc (boxC q la fa lk fk)) := ((Ext.refl w).alloc _).alloc _
  have HX0 := Lib.hid hx0
  have HSL := Lib.hid (fun w1 (hx : Ext ((w.alloc (boxD r a c)).alloc (boxC q la fa lk fk)) w1) => slim_any _ r w1 (hr'.ext (hx0.trans hx)))
  have HSH := Lib.hid (fun w1 (hx : Ext ((w.alloc (boxD r a c)).alloc (boxC q la fa lk fk)) w1) => short_any _ q w1 (hR'.ext (hx0.trans hx)))
  have HRR := Lib.hid (fun w1 (hx : Ext ((w.alloc (boxD r a c)).alloc (boxC q la fa lk fk)) w1) => rround_any _ r w1 (hr'.ext (hx0.trans hx)))
  have HRO0 := Lib.hid (fun (h0 : q.loads.length ≤ 1000) w1 (hx : Ext ((w.alloc (boxD r a c)).alloc (boxC q la fa lk fk)) w1) => rroads_any _ q w1 (hR'.ext (hx0.trans hx)) h0)
  have HL := Lib.hid (fun w1 (hx : Ext ((w.alloc (boxD r a c)).alloc (boxC q la fa lk fk)) w1) => lknown_any w1 (ht.ext (hx0.trans hx)))
  have HB := Lib.hid (fun W (h : Ext ((w.alloc (boxD r a c)).alloc (boxC q la fa lk fk)) W) => And.intro (round_cells ((h.block (by simp; omega)).trans (two_new w (boxD r a c) (boxC q la fa lk fk)).1)) (show W.cell? ⟨w.heap.size + 1, 0, none⟩ = some (.slice la q.loads.length lk) ∧ W.cell? ⟨w.heap.size + 1, 1, none⟩ = some (.int .i64 q.bears) ∧ W.cell? ⟨w.heap.size + 1, 2, none⟩ = some (.slice fa q.far.length fk) from
    boxC_cells ((h.block (b := w.heap.size + 1) (by simp)).trans (two_new w (boxD r a c) (boxC q la fa lk fk)).2)))
  have hmix : Tryz.prog.follows .mixedOrders = true := by kernel_rfl
  rw [hs] at HSL
  rw [hsh] at HSH
  unfold Round.cells at *
  clear hr' hR' hh hll hff hx0 ht h3 hs HRO0 hsh
  go_enter Tryz.func4, Tryz.ntmps4
  go_upto_region 1 with fail
  obtain ⟨⟨z0, z1, z2, z3, z4, z5, z6, z7⟩, y0, y1, y2⟩ := HB.out _ (Ext.refl _)
  go_wp2_with (first
    | (go_at_call 18; refine (HSL.out _ (Ext.refl _)).mono ?_; rintro e w1 ⟨rfl, hx1⟩; have hy1 := Ext.trans (Ext.refl ((w.alloc (boxD r a c)).alloc (boxC q la fa lk fk))) hx1; clear z0 z1 z2 z3 z4 z5 z6 z7 y0 y1 y2; obtain ⟨⟨z0, z1, z2, z3, z4, z5, z6, z7⟩, y0, y1, y2⟩ := HB.out _ hy1)
    | (go_at_call 11; refine (HSH.out _ hy1).mono ?_; rintro e w2 ⟨rfl, hx2⟩; have hy2 := Ext.trans hy1 hx2; clear z0 z1 z2 z3 z4 z5 z6 z7 y0 y1 y2; obtain ⟨⟨z0, z1, z2, z3, z4, z5, z6, z7⟩, y0, y1, y2⟩ := HB.out _ hy2)
    | (go_at_call 12; refine (HL.out _ hy2).mono ?_; rintro e wk ⟨rfl, hxk⟩))
  go_ret
  exact ⟨rfl, (HX0.out.trans hy2).trans hxk⟩
set_option maxRecDepth 100000 in
set_option maxHeartbeats 16000000 in
theorem more_e2 (v : Value) (r : Round) (more : Int) (qv : Value) (q : Roads) (w : World) (hr : RoundAt w v r) (hR : RoadsAt w qv q) (ht : TabOk w) (hs : slimB r = true) (hsh : shortB q = true) (hb : isRoundB r = false) : Calls Tryz.prog 4 #[v, .int .i64 more, qv] w (TrueP w) := by
  obtain ⟨hv, rfl, hh⟩ := hr
  have hr' : RoundAt w (.agg (r.cells hv).toArray) r := ⟨hv, rfl, hh⟩
  have hR' := hR
  obtain ⟨lv, fv, rfl, hll, hff⟩ := hR
  obtain ⟨a, c, rfl, h1, h2, h3⟩ := hh.open
  obtain ⟨la, lk, rfl, l1, l2, _⟩ := hll.open
  obtain ⟨fa, fk, rfl, f1, f2, _⟩ := hff.open
  have hx0 : Ext w ((w.alloc (boxD r a c)).alloc (boxC q la fa lk fk)) := ((Ext.refl w).alloc _).alloc _
  have HX0 := Lib.hid hx0
  have HSL := Lib.hid (fun w1 (hx : Ext ((w.alloc (boxD r a c)).alloc (boxC q la fa lk fk)) w1) => slim_any _ r w1 (hr'.ext (hx0.trans hx)))
  have HSH := Lib.hid (fun w1 (hx : Ext ((w.alloc (boxD r a c)).alloc (boxC q la fa lk fk)) w1) => short_any _ q w1 (hR'.ext (hx0.trans hx)))
  have HRR := Lib.hid (fun w1 (hx : Ext ((w.alloc (boxD r a c)).alloc (boxC q la fa lk fk)) w1) => rround_any _ r w1 (hr'.ext (hx0.trans hx)))
  have HRO0 := Lib.hid (fun (h0 : q.loads.length ≤ 1000) w1 (hx : Ext ((w.alloc (boxD r a c)).alloc (boxC q la fa lk fk)) w1) => rroads_any _ q w1 (hR'.ext (hx0.trans hx)) h0)
  have HL := Lib.hid (fun w1 (hx : Ext ((w.alloc (boxD r a c)).alloc (boxC q la fa lk fk)) w1) => lknown_any w1 (ht.ext (hx0.trans hx)))
  have HB := Lib.hid (fun W (h : Ext ((w.alloc (boxD r a c)).alloc (boxC q la fa lk fk)) W) => And.intro (round_cells ((h.block (by simp; omega)).trans (two_new w (boxD r a c) (boxC q la fa lk fk)).1)) (show W.cell? ⟨w.heap.size + 1, 0, none⟩ = some (.slice la q.loads.length lk) ∧ W.cell? ⟨w.heap.size + 1, 1, none⟩ = some (.int .i64 q.bears) ∧ W.cell? ⟨w.heap.size + 1, 2, none⟩ = some (.slice fa q.far.length fk) from
    boxC_cells ((h.block (b := w.heap.size + 1) (by simp)).trans (two_new w (boxD r a c) (boxC q la fa lk fk)).2)))
  have hmix : Tryz.prog.follows .mixedOrders = true := by kernel_rfl
  have hL7 : q.loads.length ≤ 7 := by
    unfold shortB at hsh
    simp only [Bool.and_eq_true, decide_eq_true_eq] at hsh
    omega
  have HRO := Lib.hid (HRO0.out (by omega))
  rw [hs] at HSL
  rw [hsh] at HSH
  rw [hb] at HRR
  unfold Round.cells at *
  clear hr' hR' hh hll hff hx0 ht h3 hs HRO0 hsh hb
  go_enter Tryz.func4, Tryz.ntmps4
  go_upto_region 1 with fail
  obtain ⟨⟨z0, z1, z2, z3, z4, z5, z6, z7⟩, y0, y1, y2⟩ := HB.out _ (Ext.refl _)
  go_wp2_with (first
    | (go_at_call 18; refine (HSL.out _ (Ext.refl _)).mono ?_; rintro e w1 ⟨rfl, hx1⟩; have hy1 := Ext.trans (Ext.refl ((w.alloc (boxD r a c)).alloc (boxC q la fa lk fk))) hx1; clear z0 z1 z2 z3 z4 z5 z6 z7 y0 y1 y2; obtain ⟨⟨z0, z1, z2, z3, z4, z5, z6, z7⟩, y0, y1, y2⟩ := HB.out _ hy1)
    | (go_at_call 11; refine (HSH.out _ hy1).mono ?_; rintro e w2 ⟨rfl, hx2⟩; have hy2 := Ext.trans hy1 hx2; clear z0 z1 z2 z3 z4 z5 z6 z7 y0 y1 y2; obtain ⟨⟨z0, z1, z2, z3, z4, z5, z6, z7⟩, y0, y1, y2⟩ := HB.out _ hy2)
    | (go_at_call 19; refine (HRR.out _ hy2).mono ?_; rintro e w3 ⟨rfl, hx3⟩; have hy3 := Ext.trans hy2 hx3; clear z0 z1 z2 z3 z4 z5 z6 z7 y0 y1 y2; obtain ⟨⟨z0, z1, z2, z3, z4, z5, z6, z7⟩, y0, y1, y2⟩ := HB.out _ hy3)
    | (go_at_call 12; refine (HL.out _ hy3).mono ?_; rintro e wk ⟨rfl, hxk⟩))
  go_ret
  exact ⟨rfl, (HX0.out.trans hy3).trans hxk⟩
set_option maxRecDepth 100000 in
set_option maxHeartbeats 16000000 in
theorem more_e3 (v : Value) (r : Round) (more : Int) (qv : Value) (q : Roads) (w : World) (hr : RoundAt w v r) (hR : RoadsAt w qv q) (ht : TabOk w) (hs : slimB r = true) (hsh : shortB q = true) (hb : isRoundB r = true) (hro : isRoadsB q = false) : Calls Tryz.prog 4 #[v, .int .i64 more, qv] w (TrueP w) := by
  obtain ⟨hv, rfl, hh⟩ := hr
  have hr' : RoundAt w (.agg (r.cells hv).toArray) r := ⟨hv, rfl, hh⟩
  have hR' := hR
  obtain ⟨lv, fv, rfl, hll, hff⟩ := hR
  obtain ⟨a, c, rfl, h1, h2, h3⟩ := hh.open
  obtain ⟨la, lk, rfl, l1, l2, _⟩ := hll.open
  obtain ⟨fa, fk, rfl, f1, f2, _⟩ := hff.open
  have hx0 : Ext w ((w.alloc (boxD r a c)).alloc (boxC q la fa lk fk)) := ((Ext.refl w).alloc _).alloc _
  have HX0 := Lib.hid hx0
  have HSL := Lib.hid (fun w1 (hx : Ext ((w.alloc (boxD r a c)).alloc (boxC q la fa lk fk)) w1) => slim_any _ r w1 (hr'.ext (hx0.trans hx)))
  have HSH := Lib.hid (fun w1 (hx : Ext ((w.alloc (boxD r a c)).alloc (boxC q la fa lk fk)) w1) => short_any _ q w1 (hR'.ext (hx0.trans hx)))
  have HRR := Lib.hid (fun w1 (hx : Ext ((w.alloc (boxD r a c)).alloc (boxC q la fa lk fk)) w1) => rround_any _ r w1 (hr'.ext (hx0.trans hx)))
  have HRO0 := Lib.hid (fun (h0 : q.loads.length ≤ 1000) w1 (hx : Ext ((w.alloc (boxD r a c)).alloc (boxC q la fa lk fk)) w1) => rroads_any _ q w1 (hR'.ext (hx0.trans hx)) h0)
  have HL := Lib.hid (fun w1 (hx : Ext ((w.alloc (boxD r a c)).alloc (boxC q la fa lk fk)) w1) => lknown_any w1 (ht.ext (hx0.trans hx)))
  have HB := Lib.hid (fun W (h : Ext ((w.alloc (boxD r a c)).alloc (boxC q la fa lk fk)) W) => And.intro (round_cells ((h.block (by simp; omega)).trans (two_new w (boxD r a c) (boxC q la fa lk fk)).1)) (show W.cell? ⟨w.heap.size + 1, 0, none⟩ = some (.slice la q.loads.length lk) ∧ W.cell? ⟨w.heap.size + 1, 1, none⟩ = some (.int .i64 q.bears) ∧ W.cell? ⟨w.heap.size + 1, 2, none⟩ = some (.slice fa q.far.length fk) from
    boxC_cells ((h.block (b := w.heap.size + 1) (by simp)).trans (two_new w (boxD r a c) (boxC q la fa lk fk)).2)))
  have hmix : Tryz.prog.follows .mixedOrders = true := by kernel_rfl
  have hL7 : q.loads.length ≤ 7 := by
    unfold shortB at hsh
    simp only [Bool.and_eq_true, decide_eq_true_eq] at hsh
    omega
  have HRO := Lib.hid (HRO0.out (by omega))
  rw [hs] at HSL
  rw [hsh] at HSH
  rw [hb] at HRR
  rw [hro] at HRO
  unfold Round.cells at *
  clear hr' hR' hh hll hff hx0 ht h3 hs HRO0 hsh hb hro
  go_enter Tryz.func4, Tryz.ntmps4
  go_upto_region 1 with fail
  obtain ⟨⟨z0, z1, z2, z3, z4, z5, z6, z7⟩, y0, y1, y2⟩ := HB.out _ (Ext.refl _)
  go_wp2_with (first
    | (go_at_call 18; refine (HSL.out _ (Ext.refl _)).mono ?_; rintro e w1 ⟨rfl, hx1⟩; have hy1 := Ext.trans (Ext.refl ((w.alloc (boxD r a c)).alloc (boxC q la fa lk fk))) hx1; clear z0 z1 z2 z3 z4 z5 z6 z7 y0 y1 y2; obtain ⟨⟨z0, z1, z2, z3, z4, z5, z6, z7⟩, y0, y1, y2⟩ := HB.out _ hy1)
    | (go_at_call 11; refine (HSH.out _ hy1).mono ?_; rintro e w2 ⟨rfl, hx2⟩; have hy2 := Ext.trans hy1 hx2; clear z0 z1 z2 z3 z4 z5 z6 z7 y0 y1 y2; obtain ⟨⟨z0, z1, z2, z3, z4, z5, z6, z7⟩, y0, y1, y2⟩ := HB.out _ hy2)
    | (go_at_call 19; refine (HRR.out _ hy2).mono ?_; rintro e w3 ⟨rfl, hx3⟩; have hy3 := Ext.trans hy2 hx3; clear z0 z1 z2 z3 z4 z5 z6 z7 y0 y1 y2; obtain ⟨⟨z0, z1, z2, z3, z4, z5, z6, z7⟩, y0, y1, y2⟩ := HB.out _ hy3)
    | (go_at_call 14; refine (HRO.out _ hy3).mono ?_; rintro e w4 ⟨rfl, hx4⟩; have hy4 := Ext.trans hy3 hx4; clear z0 z1 z2 z3 z4 z5 z6 z7 y0 y1 y2; obtain ⟨⟨z0, z1, z2, z3, z4, z5, z6, z7⟩, y0, y1, y2⟩ := HB.out _ hy4)
    | (go_at_call 12; refine (HL.out _ hy4).mono ?_; rintro e wk ⟨rfl, hxk⟩))
  go_ret
  exact ⟨rfl, (HX0.out.trans hy4).trans hxk⟩
set_option maxRecDepth 100000 in
set_option maxHeartbeats 16000000 in
theorem more_e4 (v : Value) (r : Round) (more : Int) (qv : Value) (q : Roads) (w : World) (hr : RoundAt w v r) (hR : RoadsAt w qv q) (ht : TabOk w) (hs : slimB r = true) (hsh : shortB q = true) (hb : isRoundB r = true) (hro : isRoadsB q = true) (hm0 : more < 0) : Calls Tryz.prog 4 #[v, .int .i64 more, qv] w (TrueP w) := by
  obtain ⟨hv, rfl, hh⟩ := hr
  have hr' : RoundAt w (.agg (r.cells hv).toArray) r := ⟨hv, rfl, hh⟩
  have hR' := hR
  obtain ⟨lv, fv, rfl, hll, hff⟩ := hR
  obtain ⟨a, c, rfl, h1, h2, h3⟩ := hh.open
  obtain ⟨la, lk, rfl, l1, l2, _⟩ := hll.open
  obtain ⟨fa, fk, rfl, f1, f2, _⟩ := hff.open
  have hx0 : Ext w ((w.alloc (boxD r a c)).alloc (boxC q la fa lk fk)) := ((Ext.refl w).alloc _).alloc _
  have HX0 := Lib.hid hx0
  have HSL := Lib.hid (fun w1 (hx : Ext ((w.alloc (boxD r a c)).alloc (boxC q la fa lk fk)) w1) => slim_any _ r w1 (hr'.ext (hx0.trans hx)))
  have HSH := Lib.hid (fun w1 (hx : Ext ((w.alloc (boxD r a c)).alloc (boxC q la fa lk fk)) w1) => short_any _ q w1 (hR'.ext (hx0.trans hx)))
  have HRR := Lib.hid (fun w1 (hx : Ext ((w.alloc (boxD r a c)).alloc (boxC q la fa lk fk)) w1) => rround_any _ r w1 (hr'.ext (hx0.trans hx)))
  have HRO0 := Lib.hid (fun (h0 : q.loads.length ≤ 1000) w1 (hx : Ext ((w.alloc (boxD r a c)).alloc (boxC q la fa lk fk)) w1) => rroads_any _ q w1 (hR'.ext (hx0.trans hx)) h0)
  have HL := Lib.hid (fun w1 (hx : Ext ((w.alloc (boxD r a c)).alloc (boxC q la fa lk fk)) w1) => lknown_any w1 (ht.ext (hx0.trans hx)))
  have HB := Lib.hid (fun W (h : Ext ((w.alloc (boxD r a c)).alloc (boxC q la fa lk fk)) W) => And.intro (round_cells ((h.block (by simp; omega)).trans (two_new w (boxD r a c) (boxC q la fa lk fk)).1)) (show W.cell? ⟨w.heap.size + 1, 0, none⟩ = some (.slice la q.loads.length lk) ∧ W.cell? ⟨w.heap.size + 1, 1, none⟩ = some (.int .i64 q.bears) ∧ W.cell? ⟨w.heap.size + 1, 2, none⟩ = some (.slice fa q.far.length fk) from
    boxC_cells ((h.block (b := w.heap.size + 1) (by simp)).trans (two_new w (boxD r a c) (boxC q la fa lk fk)).2)))
  have hmix : Tryz.prog.follows .mixedOrders = true := by kernel_rfl
  have hL7 : q.loads.length ≤ 7 := by
    unfold shortB at hsh
    simp only [Bool.and_eq_true, decide_eq_true_eq] at hsh
    omega
  have HRO := Lib.hid (HRO0.out (by omega))
  rw [hs] at HSL
  rw [hsh] at HSH
  rw [hb] at HRR
  rw [hro] at HRO
  have u1 : decide (more < 0) = true := by simpa using hm0
  unfold Round.cells at *
  clear hr' hR' hh hll hff hx0 ht h3 hs HRO0 hsh hb hro hm0
  go_enter Tryz.func4, Tryz.ntmps4
  go_upto_region 1 with fail
  obtain ⟨⟨z0, z1, z2, z3, z4, z5, z6, z7⟩, y0, y1, y2⟩ := HB.out _ (Ext.refl _)
  go_wp2_with (first
    | (go_at_call 18; refine (HSL.out _ (Ext.refl _)).mono ?_; rintro e w1 ⟨rfl, hx1⟩; have hy1 := Ext.trans (Ext.refl ((w.alloc (boxD r a c)).alloc (boxC q la fa lk fk))) hx1; clear z0 z1 z2 z3 z4 z5 z6 z7 y0 y1 y2; obtain ⟨⟨z0, z1, z2, z3, z4, z5, z6, z7⟩, y0, y1, y2⟩ := HB.out _ hy1)
    | (go_at_call 11; refine (HSH.out _ hy1).mono ?_; rintro e w2 ⟨rfl, hx2⟩; have hy2 := Ext.trans hy1 hx2; clear z0 z1 z2 z3 z4 z5 z6 z7 y0 y1 y2; obtain ⟨⟨z0, z1, z2, z3, z4, z5, z6, z7⟩, y0, y1, y2⟩ := HB.out _ hy2)
    | (go_at_call 19; refine (HRR.out _ hy2).mono ?_; rintro e w3 ⟨rfl, hx3⟩; have hy3 := Ext.trans hy2 hx3; clear z0 z1 z2 z3 z4 z5 z6 z7 y0 y1 y2; obtain ⟨⟨z0, z1, z2, z3, z4, z5, z6, z7⟩, y0, y1, y2⟩ := HB.out _ hy3)
    | (go_at_call 14; refine (HRO.out _ hy3).mono ?_; rintro e w4 ⟨rfl, hx4⟩; have hy4 := Ext.trans hy3 hx4; clear z0 z1 z2 z3 z4 z5 z6 z7 y0 y1 y2; obtain ⟨⟨z0, z1, z2, z3, z4, z5, z6, z7⟩, y0, y1, y2⟩ := HB.out _ hy4)
    | (go_at_call 12; refine (HL.out _ hy4).mono ?_; rintro e wk ⟨rfl, hxk⟩))
  go_ret
  exact ⟨rfl, (HX0.out.trans hy4).trans hxk⟩
set_option maxRecDepth 100000 in
set_option maxHeartbeats 16000000 in
theorem more_e5 (v : Value) (r : Round) (more : Int) (qv : Value) (q : Roads) (w : World) (hr : RoundAt w v r) (hR : RoadsAt w qv q) (ht : TabOk w) (hs : slimB r = true) (hsh : shortB q = true) (hb : isRoundB r = true) (hro : isRoadsB q = true) (hm0 : 0 ≤ more) (hm1 : 500 < more) : Calls Tryz.prog 4 #[v, .int .i64 more, qv] w (TrueP w) := by
  obtain ⟨hv, rfl, hh⟩ := hr
  have hr' : RoundAt w (.agg (r.cells hv).toArray) r := ⟨hv, rfl, hh⟩
  have hR' := hR
  obtain ⟨lv, fv, rfl, hll, hff⟩ := hR
  obtain ⟨a, c, rfl, h1, h2, h3⟩ := hh.open
  obtain ⟨la, lk, rfl, l1, l2, _⟩ := hll.open
  obtain ⟨fa, fk, rfl, f1, f2, _⟩ := hff.open
  have hx0 : Ext w ((w.alloc (boxD r a c)).alloc (boxC q la fa lk fk)) := ((Ext.refl w).alloc _).alloc _
  have HX0 := Lib.hid hx0
  have HSL := Lib.hid (fun w1 (hx : Ext ((w.alloc (boxD r a c)).alloc (boxC q la fa lk fk)) w1) => slim_any _ r w1 (hr'.ext (hx0.trans hx)))
  have HSH := Lib.hid (fun w1 (hx : Ext ((w.alloc (boxD r a c)).alloc (boxC q la fa lk fk)) w1) => short_any _ q w1 (hR'.ext (hx0.trans hx)))
  have HRR := Lib.hid (fun w1 (hx : Ext ((w.alloc (boxD r a c)).alloc (boxC q la fa lk fk)) w1) => rround_any _ r w1 (hr'.ext (hx0.trans hx)))
  have HRO0 := Lib.hid (fun (h0 : q.loads.length ≤ 1000) w1 (hx : Ext ((w.alloc (boxD r a c)).alloc (boxC q la fa lk fk)) w1) => rroads_any _ q w1 (hR'.ext (hx0.trans hx)) h0)
  have HL := Lib.hid (fun w1 (hx : Ext ((w.alloc (boxD r a c)).alloc (boxC q la fa lk fk)) w1) => lknown_any w1 (ht.ext (hx0.trans hx)))
  have HB := Lib.hid (fun W (h : Ext ((w.alloc (boxD r a c)).alloc (boxC q la fa lk fk)) W) => And.intro (round_cells ((h.block (by simp; omega)).trans (two_new w (boxD r a c) (boxC q la fa lk fk)).1)) (show W.cell? ⟨w.heap.size + 1, 0, none⟩ = some (.slice la q.loads.length lk) ∧ W.cell? ⟨w.heap.size + 1, 1, none⟩ = some (.int .i64 q.bears) ∧ W.cell? ⟨w.heap.size + 1, 2, none⟩ = some (.slice fa q.far.length fk) from
    boxC_cells ((h.block (b := w.heap.size + 1) (by simp)).trans (two_new w (boxD r a c) (boxC q la fa lk fk)).2)))
  have hmix : Tryz.prog.follows .mixedOrders = true := by kernel_rfl
  have hL7 : q.loads.length ≤ 7 := by
    unfold shortB at hsh
    simp only [Bool.and_eq_true, decide_eq_true_eq] at hsh
    omega
  have HRO := Lib.hid (HRO0.out (by omega))
  rw [hs] at HSL
  rw [hsh] at HSH
  rw [hb] at HRR
  rw [hro] at HRO
  have u1 : decide (more < 0) = false := by simp; omega
  have u2 : decide (500 < more) = true := by simpa using hm1
  unfold Round.cells at *
  clear hr' hR' hh hll hff hx0 ht h3 hs HRO0 hsh hb hro hm0 hm1
  go_enter Tryz.func4, Tryz.ntmps4
  go_upto_region 1 with fail
  obtain ⟨⟨z0, z1, z2, z3, z4, z5, z6, z7⟩, y0, y1, y2⟩ := HB.out _ (Ext.refl _)
  go_wp2_with (first
    | (go_at_call 18; refine (HSL.out _ (Ext.refl _)).mono ?_; rintro e w1 ⟨rfl, hx1⟩; have hy1 := Ext.trans (Ext.refl ((w.alloc (boxD r a c)).alloc (boxC q la fa lk fk))) hx1; clear z0 z1 z2 z3 z4 z5 z6 z7 y0 y1 y2; obtain ⟨⟨z0, z1, z2, z3, z4, z5, z6, z7⟩, y0, y1, y2⟩ := HB.out _ hy1)
    | (go_at_call 11; refine (HSH.out _ hy1).mono ?_; rintro e w2 ⟨rfl, hx2⟩; have hy2 := Ext.trans hy1 hx2; clear z0 z1 z2 z3 z4 z5 z6 z7 y0 y1 y2; obtain ⟨⟨z0, z1, z2, z3, z4, z5, z6, z7⟩, y0, y1, y2⟩ := HB.out _ hy2)
    | (go_at_call 19; refine (HRR.out _ hy2).mono ?_; rintro e w3 ⟨rfl, hx3⟩; have hy3 := Ext.trans hy2 hx3; clear z0 z1 z2 z3 z4 z5 z6 z7 y0 y1 y2; obtain ⟨⟨z0, z1, z2, z3, z4, z5, z6, z7⟩, y0, y1, y2⟩ := HB.out _ hy3)
    | (go_at_call 14; refine (HRO.out _ hy3).mono ?_; rintro e w4 ⟨rfl, hx4⟩; have hy4 := Ext.trans hy3 hx4; clear z0 z1 z2 z3 z4 z5 z6 z7 y0 y1 y2; obtain ⟨⟨z0, z1, z2, z3, z4, z5, z6, z7⟩, y0, y1, y2⟩ := HB.out _ hy4)
    | (go_at_call 12; refine (HL.out _ hy4).mono ?_; rintro e wk ⟨rfl, hxk⟩))
  go_ret
  exact ⟨rfl, (HX0.out.trans hy4).trans hxk⟩
end Go.Proofs.YtapkbonlijhmjaaGreatDoor
