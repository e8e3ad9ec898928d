/- The law CardPrints: its ways, joined. -/
import Derived.Test.YtbeophjdiddomaaGreatDoorReadb
import Derived.Test.YtbeophjdiddomaaGreatDoorRead
import Derived.Test.YtbeophjdiddomaaGreatDoorRsame
import Derived.Test.YtbeophjdiddomaaGreatDoorRprint
import Derived.Test.YtbeophjdiddomaaGreatDoorSpoilp
import Derived.Test.YtbeophjdiddomaaGreatDoorOpened
namespace Go.Proofs.YtbeophjdiddomaaGreatDoor
open Go.RowKit

set_option maxRecDepth 100000 in
set_option maxHeartbeats 16000000 in
theorem printsL_e0 (v : Value) (r : Round) (w : World) (hr : RoundAt w v r) (ht : TabOk w) (hs : slimB r = false) : Calls Tryz.prog 4 #[v] w (TrueP w) := by
  obtain ⟨hv, rfl, hh⟩ := hr
  have hr' : RoundAt w (.agg (r.cells hv).toArray) r := ⟨hv, rfl, hh⟩
  obtain ⟨a, c, rfl, h1, h2, _⟩ := hh.open
  have hx0 : Ext w (w.alloc (boxD r a c)) := (Ext.refl w).alloc _
  have HX0 := Lib.hid hx0
  have HSL := Lib.hid (fun w1 (hx : Ext w w1) => slim_any _ r w1 (hr'.ext hx))
  have HL := Lib.hid (fun w1 (hx : Ext w w1) => lknown_any w1 (ht.ext hx))
  have HB := Lib.hid (fun W (h : Ext (w.alloc (boxD r a c)) W) => round_cells ((h.block (by simp)).trans (World.alloc_heap_new w (boxD r a c))))
  rw [hs] at HSL
  have hmix : Tryz.prog.follows .mixedOrders = true := by kernel_rfl
  unfold Round.cells at *
  clear hr' hh hx0 ht hs
  go_enter Tryz.func4, Tryz.ntmps4
  obtain ⟨z0, z1, z2, z3, z4, z5, z6, z7⟩ := HB.out _ (Ext.refl _)
  go_wp2_with (first
    | (go_at_call 7; refine (HSL.out _ HX0.out).mono ?_; rintro e w1 ⟨rfl, hx1⟩; have hy1 := Ext.trans (Ext.refl (w.alloc (boxD r a c))) hx1; clear z0 z1 z2 z3 z4 z5 z6 z7; obtain ⟨z0, z1, z2, z3, z4, z5, z6, z7⟩ := HB.out _ hy1)
    | (go_at_call 9; refine (HL.out _ (HX0.out.trans hy1)).mono ?_; rintro e wk ⟨rfl, hxk⟩))
  go_ret
  exact ⟨rfl, (HX0.out.trans hy1).trans hxk⟩
set_option maxRecDepth 100000 in
set_option maxHeartbeats 16000000 in
theorem printsL_e1 (v : Value) (r : Round) (w : World) (hr : RoundAt w v r) (ht : TabOk w) (hs : slimB r = true) (hb : isRoundB r = false) : Calls Tryz.prog 4 #[v] w (TrueP w) := by
  obtain ⟨hv, rfl, hh⟩ := hr
  have hr' : RoundAt w (.agg (r.cells hv).toArray) r := ⟨hv, rfl, hh⟩
  obtain ⟨a, c, rfl, h1, h2, _⟩ := hh.open
  have hx0 : Ext w (w.alloc (boxD r a c)) := (Ext.refl w).alloc _
  have HX0 := Lib.hid hx0
  have HSL := Lib.hid (fun w1 (hx : Ext w w1) => slim_any _ r w1 (hr'.ext hx))
  have HRR := Lib.hid (fun w1 (hx : Ext w w1) => rround_any _ r w1 (hr'.ext hx))
  have HL := Lib.hid (fun w1 (hx : Ext w w1) => lknown_any w1 (ht.ext hx))
  have HB := Lib.hid (fun W (h : Ext (w.alloc (boxD r a c)) W) => round_cells ((h.block (by simp)).trans (World.alloc_heap_new w (boxD r a c))))
  have HPR := Lib.hid (fun w1 (hx : Ext w w1) => (print_any _ r w1 (hr'.ext hx) (ht.ext hx)).mono (R' := fun e w' => e = .returned (.tuple #[.string ⟨#[]⟩, .int .i64 2]) ∧ Ext w1 w') (fun e w' h => by
    have h1 := h.1
    rw [hb] at h1
    exact ⟨h1, h.2⟩))
  rw [hs] at HSL
  rw [hb] at HRR
  have hmix : Tryz.prog.follows .mixedOrders = true := by kernel_rfl
  unfold Round.cells at *
  clear hr' hh hx0 ht hs hb
  go_enter Tryz.func4, Tryz.ntmps4
  obtain ⟨z0, z1, z2, z3, z4, z5, z6, z7⟩ := HB.out _ (Ext.refl _)
  go_wp2_with (first
    | (go_at_call 7; refine (HSL.out _ HX0.out).mono ?_; rintro e w1 ⟨rfl, hx1⟩; have hy1 := Ext.trans (Ext.refl (w.alloc (boxD r a c))) hx1; clear z0 z1 z2 z3 z4 z5 z6 z7; obtain ⟨z0, z1, z2, z3, z4, z5, z6, z7⟩ := HB.out _ hy1)
    | (go_at_call 18; refine (HPR.out _ (HX0.out.trans hy1)).mono ?_; rintro e w2 ⟨rfl, hx2⟩; have hy2 := Ext.trans hy1 hx2; clear z0 z1 z2 z3 z4 z5 z6 z7; obtain ⟨z0, z1, z2, z3, z4, z5, z6, z7⟩ := HB.out _ hy2)
    | (go_at_call 8; refine (HRR.out _ (HX0.out.trans hy2)).mono ?_; rintro e w3 ⟨rfl, hx3⟩; have hy3 := Ext.trans hy2 hx3; clear z0 z1 z2 z3 z4 z5 z6 z7; obtain ⟨z0, z1, z2, z3, z4, z5, z6, z7⟩ := HB.out _ hy3)
    | (go_at_call 9; refine (HL.out _ (HX0.out.trans hy3)).mono ?_; rintro e wk ⟨rfl, hxk⟩))
  go_ret
  exact ⟨rfl, (HX0.out.trans hy3).trans hxk⟩
set_option maxRecDepth 100000 in
set_option maxHeartbeats 16000000 in
theorem printsL_e2 (v : Value) (r : Round) (w : World) (hr : RoundAt w v r) (ht : TabOk w) (hm : MaxOk w) (hs : slimB r = true) (hb : isRoundB r = true) (s : List UInt8) (hst : textT r = s) : Calls Tryz.prog 4 #[v] w (TrueP w) := by
  obtain ⟨hv, rfl, hh⟩ := hr
  have hr' : RoundAt w (.agg (r.cells hv).toArray) r := ⟨hv, rfl, hh⟩
  obtain ⟨a, c, rfl, h1, h2, _⟩ := hh.open
  have hB := roundB_of hb
  have h4 := text_400 hB
  rw [hst] at h4
  have hx0 : Ext w (w.alloc (boxD r a c)) := (Ext.refl w).alloc _
  have HX0 := Lib.hid hx0
  have HSL := Lib.hid (fun w1 (hx : Ext w w1) => slim_any _ r w1 (hr'.ext hx))
  have HRR := Lib.hid (fun w1 (hx : Ext w w1) => rround_any _ r w1 (hr'.ext hx))
  have HL := Lib.hid (fun w1 (hx : Ext w w1) => lknown_any w1 (ht.ext hx))
  have HB := Lib.hid (fun W (h : Ext (w.alloc (boxD r a c)) W) => round_cells ((h.block (by simp)).trans (World.alloc_heap_new w (boxD r a c))))
  have HPR := Lib.hid (fun w1 (hx : Ext w w1) => (print_any _ r w1 (hr'.ext hx) (ht.ext hx)).mono (R' := fun e w' => e = .returned (.tuple #[strV s, .int .i64 0]) ∧ Ext w1 w') (fun e w' h => by
    have h1 := h.1
    rw [if_pos hb, if_pos hb, hst] at h1
    exact ⟨h1, h.2⟩))
  have HRP := Lib.hid (fun w1 (hx : Ext w w1) => rprint_any _ r w1 (hr'.ext hx) (textB_of hB))
  rw [hst] at HRP
  have HRS := Lib.hid (fun w1 (hx : Ext w w1) v2 (h2 : RoundAt w1 v2 r) => rsame_any v2 _ r w1 h2 (hr'.ext hx))
  have HRD := Lib.hid (fun w1 (hx : Ext w w1) => (read_res s w1 (by omega) (fun w2 h2 => read_any s w2 (ht.ext (hx.trans h2)) (hm.ext (hx.trans h2)) (by omega))).mono (R' := fun e w' => ∃ a2 c2, e = .returned (.tuple #[.agg #[.int .i64 r.per, .int .i64 r.lo, .int .i64 r.hi, .int .i64 r.card, .int .i64 r.slack, .slice a2 r.houses.length c2, .int .i64 r.all, .int .i64 r.off], .int .i64 0]) ∧ Ext w1 w' ∧ HousesAt w' (.slice a2 r.houses.length c2) r.houses) (fun e w' h => by
    obtain ⟨v2, err, rfl, hx', -, -, h6⟩ := h
    obtain ⟨rfl, hv2, rfl, hh2⟩ := (h6 h4 r ⟨textN_of hB, hst⟩).1 hb
    obtain ⟨a2, c2, rfl, _⟩ := hh2.open
    exact ⟨a2, c2, rfl, hx', hh2⟩))
  rw [hs] at HSL
  rw [hb] at HRR
  have hmix : Tryz.prog.follows .mixedOrders = true := by kernel_rfl
  unfold Round.cells at *
  clear hr' hh hx0 ht hs hb hst h4 hB hm
  go_enter Tryz.func4, Tryz.ntmps4
  obtain ⟨z0, z1, z2, z3, z4, z5, z6, z7⟩ := HB.out _ (Ext.refl _)
  go_wp2_with (first
    | (go_at_call 7; refine (HSL.out _ HX0.out).mono ?_; rintro e w1 ⟨rfl, hx1⟩; have hy1 := Ext.trans (Ext.refl (w.alloc (boxD r a c))) hx1; clear z0 z1 z2 z3 z4 z5 z6 z7; obtain ⟨z0, z1, z2, z3, z4, z5, z6, z7⟩ := HB.out _ hy1)
    | (go_at_call 18; refine (HPR.out _ (HX0.out.trans hy1)).mono ?_; rintro e w2 ⟨rfl, hx2⟩; have hy2 := Ext.trans hy1 hx2; clear z0 z1 z2 z3 z4 z5 z6 z7; obtain ⟨z0, z1, z2, z3, z4, z5, z6, z7⟩ := HB.out _ hy2)
    | (go_at_call 8; refine (HRR.out _ (HX0.out.trans hy2)).mono ?_; rintro e w3 ⟨rfl, hx3⟩; have hy3 := Ext.trans hy2 hx3; clear z0 z1 z2 z3 z4 z5 z6 z7; obtain ⟨z0, z1, z2, z3, z4, z5, z6, z7⟩ := HB.out _ hy3)
    | (go_at_call 19; refine (HRD.out _ (HX0.out.trans hy3)).mono ?_; rintro e w4 ⟨a2, c2, rfl, hx4, hh2⟩; have hy4 := hy3.trans hx4; have HH2 := Lib.hid hh2; have HY5 := Lib.hid (hy4.trans ((Ext.refl w4).alloc (boxD r a2 c2))); clear hh2 z0 z1 z2 z3 z4 z5 z6 z7; obtain ⟨z0, z1, z2, z3, z4, z5, z6, z7⟩ := HB.out _ HY5.out)
    | (go_at_call 20; refine (HRP.out _ (HX0.out.trans HY5.out)).mono ?_; rintro e w6 ⟨rfl, hx6⟩; have hy6 := HY5.out.trans hx6; clear z0 z1 z2 z3 z4 z5 z6 z7; obtain ⟨z0, z1, z2, z3, z4, z5, z6, z7⟩ := HB.out _ hy6; obtain ⟨k0, k1, k2, k3, k4, k5, k6, k7⟩ := round_cells ((hx6.block (by simp)).trans (World.alloc_heap_new w4 (boxD r a2 c2))); have HH6 := Lib.hid (HH2.out.ext (((Ext.refl w4).alloc (boxD r a2 c2)).trans hx6)))
    | (go_at_call 21; refine (HRS.out _ (HX0.out.trans hy6) _ ⟨_, rfl, HH6.out⟩).mono ?_; rintro e w7 ⟨rfl, hx7⟩; have hy7 := hy6.trans hx7)
    | (go_at_call 9; refine (HL.out _ (HX0.out.trans hy7)).mono ?_; rintro e wk ⟨rfl, hxk⟩))
  go_ret
  exact ⟨rfl, (HX0.out.trans hy7).trans hxk⟩
theorem cardPrints_any (v : Value) (r : Round) (w : World) (hr : RoundAt w v r) (ht : TabOk w) (hm : MaxOk w) : Calls Tryz.prog 4 #[v] w (TrueP w) := by
  cases hs : slimB r with
  | false => exact printsL_e0 v r w hr ht hs
  | true =>
  cases hb : isRoundB r with
  | false => exact printsL_e1 v r w hr ht hs hb
  | true => exact printsL_e2 v r w hr ht hm hs hb _ rfl
end Go.Proofs.YtbeophjdiddomaaGreatDoor
