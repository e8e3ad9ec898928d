/- Costs. -/
import Derived.Test.YtpebafaigldldaaGreatDoorOco
namespace Go.Proofs.YtpebafaigldldaaGreatDoor
open Go.RowKit
theorem sellers_are {ls : List Seller} {wants : List Int} (h : SellersB ls wants) : areSellersB ls wants = true := sellersB_iff.2 h
def CostsRes (ls : List Seller) (wants : List Int) (p : List (List Int)) (w : World) (e : Ending) (w' : World) : Prop :=
 Ext w w' ∧ ((areSellersB ls wants && isPurchaseB ls wants p) = false ∧ e = .returned (.tuple #[.int .i64 0, .int .i64 2]) ∨ (areSellersB ls wants && isPurchaseB ls wants p) = true ∧ e = .returned (.tuple #[.int .i64 (costsB ls p), .int .i64 0]))
theorem enters_costs1 : ∀ args w, (callFunc 95 args).run Tryz.prog w = .ok (.enter 95 args) w := enters_of Tryz.func95 (by kernel_rfl) rfl
set_option maxRecDepth 100000 in
set_option maxHeartbeats 4000000 in
theorem costs1_yes (lv wv pv : Value) (ls : List Seller) (wants : List Int) (plan : List (List Int)) (lb wb pb ob : Nat) (x : Value) (w : World) (hS : SellersB ls wants) (hl : SellersAt w lv ls) (hw : IntsAt w wv wants) (hp : IntRowsAt w pv plan)
 (c0 : w.cell? ⟨lb, 0, none⟩ = some lv) (c1 : w.cell? ⟨wb, 0, none⟩ = some wv) (c2 : w.cell? ⟨pb, 0, none⟩ = some pv) (c3 : w.cell? ⟨ob, 0, none⟩ = some x) (f3 : w.frozen? ⟨ob, 0, none⟩ = false) (h : isPurchaseB ls wants plan = true) :
 Calls Tryz.prog 95 #[.pointer (some ⟨lb, 0, none⟩), .pointer (some ⟨wb, 0, none⟩), .pointer (some ⟨pb, 0, none⟩), .pointer (some ⟨ob, 0, none⟩)] w fun e w' => e = .returned (.tuple #[]) ∧ ∃ w2, Ext w w2 ∧ w' = w2.setCell ⟨ob, 0, none⟩ (.int .i64 (costsB ls plan)) := by
 have HC := Lib.hid ((costs_any lv wv pv ls wants plan w hS hl hw hp).mono (R' := fun e w' => e = .returned (.int .i64 (costsB ls plan)) ∧ Ext w w') (fun e w' hh => hh.2.elim (fun q => ⟨q.2, hh.1⟩) (fun q => by rw [h] at q; cases q.1)))
 have HX := Lib.hid (fun (w2 : World) (hx : Ext w w2) => (⟨hx.cell c3, (hx.frozen (lt_of_cell c3)).trans f3⟩ : _ ∧ _))
 clear hS hl hw hp h
 go_enter Tryz.func95, Tryz.ntmps95
 go_wp2_with (go_at_call 81; refine HC.out.mono ?_; rintro e w2 ⟨rfl, hx2⟩; obtain ⟨k0, k1⟩ := HX.out _ hx2)
 go_end0
 exact ⟨rfl, _, hx2, rfl⟩
set_option maxRecDepth 100000 in
set_option maxHeartbeats 4000000 in
theorem costs1_no (lv wv pv : Value) (ls : List Seller) (wants : List Int) (plan : List (List Int)) (lb wb pb ob : Nat) (w : World) (hS : SellersB ls wants) (hl : SellersAt w lv ls) (hw : IntsAt w wv wants) (hp : IntRowsAt w pv plan)
 (c0 : w.cell? ⟨lb, 0, none⟩ = some lv) (c1 : w.cell? ⟨wb, 0, none⟩ = some wv) (c2 : w.cell? ⟨pb, 0, none⟩ = some pv) (h : isPurchaseB ls wants plan = false) :
 Calls Tryz.prog 95 #[.pointer (some ⟨lb, 0, none⟩), .pointer (some ⟨wb, 0, none⟩), .pointer (some ⟨pb, 0, none⟩), .pointer (some ⟨ob, 0, none⟩)] w fun e w' => (∃ n : Int, e = .panicked [{ v := badV n, recovered := false }]) ∧ Ext w w' := by
 have HC := Lib.hid ((costs_any lv wv pv ls wants plan w hS hl hw hp).mono (R' := fun e w' => (∃ n : Int, e = .panicked [{ v := badV n, recovered := false }]) ∧ Ext w w') (fun e w' hh => hh.2.elim (fun q => by rw [h] at q; cases q.1) (fun q => ⟨q.2, hh.1⟩)))
 clear hS hl hw hp h
 go_enter Tryz.func95, Tryz.ntmps95
 go_wp2_with (go_at_call 81; refine HC.out.mono ?_; rintro e w2 ⟨⟨n, rfl⟩, hx2⟩)
 exact ⟨rfl, ⟨n, rfl⟩, hx2⟩
set_option maxRecDepth 100000 in
set_option maxHeartbeats 8000000 in
theorem Costs_any (lv wv pv : Value) (ls : List Seller) (wants : List Int) (plan : List (List Int)) (w : World) (hl : SellersAt w lv ls) (hw : IntsAt w wv wants) (hp : IntRowsAt w pv plan) :
 Calls Tryz.prog 43 #[lv, wv, pv] w (CostsRes ls wants plan w) := by
 have hmf : ∀ (fn : Fn) (first cap : Array Value) (w : World), (Instr.makeFunc fn first cap).run Tryz.prog w = .ok (.func fn first cap) w := fun _ _ _ _ => rfl
 have HAR := Lib.hid (fun (W1 : World) (h : Ext w W1) => areSellers_any lv wv ls wants W1 (hl.ext h) (hw.ext h))
 have HIN := Lib.hid (fun (W1 : World) (h : Ext w W1) => (⟨hl.ext h, hw.ext h, hp.ext h⟩ : _ ∧ _ ∧ _))
 obtain ⟨la, lc, rfl, _⟩ := hl.open
 obtain ⟨wa, wc, rfl, _⟩ := hw.open
 obtain ⟨pa, pc, rfl, _⟩ := hp.open
 obtain ⟨W, hW⟩ : ∃ W, W = ((w.alloc (.cells #[.slice la ls.length lc] 60)).alloc (.cells #[.slice wa wants.length wc] 46)).alloc (.cells #[.slice pa plan.length pc] 33) := ⟨_, rfl⟩
 have hx0 : Ext w W := by rw [hW]; exact (((Ext.refl w).alloc _).alloc _).alloc _
 have c0 : W.cell? ⟨w.heap.size, 0, none⟩ = some (.slice la ls.length lc) := by rw [hW]; go_simp
 have c1 : W.cell? ⟨w.heap.size + 1, 0, none⟩ = some (.slice wa wants.length wc) := by rw [hW]; go_simp
 have c2 : W.cell? ⟨w.heap.size + 1 + 1, 0, none⟩ = some (.slice pa plan.length pc) := by rw [hW]; go_simp
 have HX0 := Lib.hid hx0
 have HC := Lib.hid (fun (W1 : World) (h : Ext W W1) => (⟨h.cell c0, h.cell c1, h.cell c2⟩ : _ ∧ _ ∧ _))
 clear hl hw hp hx0
 have hno : ∀ w', (areSellersB ls wants && isPurchaseB ls wants plan) = false → Ext w w' → CostsRes ls wants plan w (.returned (.tuple #[.int .i64 0, .int .i64 2])) w' := fun w' h hx => ⟨hx, .inl ⟨h, rfl⟩⟩
 have hyes : ∀ w', (areSellersB ls wants && isPurchaseB ls wants plan) = true → Ext w w' → CostsRes ls wants plan w (.returned (.tuple #[.int .i64 (costsB ls plan), .int .i64 0])) w' := fun w' h hx => ⟨hx, .inr ⟨h, rfl⟩⟩
 have HNO := Lib.hid hno
 have HYES := Lib.hid hyes
 clear hno hyes
 cases i1 : areSellersB ls wants with
 | false =>
  have HZ : Hid ((areSellersB ls wants && isPurchaseB ls wants plan) = false) := by unfold Hid; rw [i1]; rfl
  rw [i1] at HAR
  clear i1
  go_enter Tryz.func43, Tryz.ntmps43
  go_upto_region 1 with fail
  rw [← hW]
  clear hW
  go_wp2_with (go_at_call 79; refine (HAR.out _ HX0.out).mono ?_; rintro e w1 ⟨rfl, hx1⟩)
  go_ret2
  exact HNO.out _ HZ.out (HX0.out.trans hx1)
 | true =>
 have hS := sellers_of i1
 rw [i1] at HAR
 cases i2 : isPurchaseB ls wants plan with
 | false =>
  have HZ : Hid ((areSellersB ls wants && isPurchaseB ls wants plan) = false) := by unfold Hid; rw [i1, i2]; rfl
  have HTR := Lib.hid (fun (w1 : World) (hx : Ext W w1) (b4 : Nat) => try_bad 95 #[.pointer (some ⟨w.heap.size, 0, none⟩), .pointer (some ⟨w.heap.size + 1, 0, none⟩), .pointer (some ⟨w.heap.size + 1 + 1, 0, none⟩), .pointer (some ⟨b4, 0, none⟩)] w1 (fun w' => Ext w1 w') enters_costs1
   ((costs1_no _ _ _ ls wants plan w.heap.size (w.heap.size + 1) (w.heap.size + 1 + 1) b4 (tryW w1) hS (HIN.out _ ((HX0.out.trans hx).alloc _)).1 (HIN.out _ ((HX0.out.trans hx).alloc _)).2.1 (HIN.out _ ((HX0.out.trans hx).alloc _)).2.2 (HC.out _ (hx.alloc _)).1 (HC.out _ (hx.alloc _)).2.1 (HC.out _ (hx.alloc _)).2.2 i2).mono
    (fun e w' hh => ⟨hh.1, hh.2.cell (by go_simp), (hh.2.frozen (by simp)).trans (by go_simp), ((Ext.refl w1).alloc _).trans hh.2⟩)))
  clear i1 i2 hS
  go_enter Tryz.func43, Tryz.ntmps43
  go_upto_region 1 with fail
  rw [← hW]
  clear hW
  go_wp2_with (first
   | (go_at_call 79; refine (HAR.out _ HX0.out).mono ?_; rintro e w1 ⟨rfl, hx1⟩; have hxz : Ext W (w1.alloc (.cells #[.int .i64 0] 3)) := hx1.alloc _)
   | (go_at_call 94; refine (HTR.out _ hxz _).mono ?_; rintro e w4 ⟨rfl, w3, n, hx3, rfl⟩))
  go_ret2
  exact HNO.out _ HZ.out ((HX0.out.trans hxz).trans ((hx3.alloc _).setCell (by simp) _))
 | true =>
  have HZ : Hid ((areSellersB ls wants && isPurchaseB ls wants plan) = true) := by unfold Hid; rw [i1, i2]; rfl
  have HTR := Lib.hid (fun (w1 : World) (hx : Ext W w1) (b4 : Nat) (x : Value) (q0 : w1.cell? ⟨b4, 0, none⟩ = some x) (q1 : w1.frozen? ⟨b4, 0, none⟩ = false) => try_ok 95 #[.pointer (some ⟨w.heap.size, 0, none⟩), .pointer (some ⟨w.heap.size + 1, 0, none⟩), .pointer (some ⟨w.heap.size + 1 + 1, 0, none⟩), .pointer (some ⟨b4, 0, none⟩)] w1 (fun w' => ∃ w2, Ext w1 w2 ∧ w' = w2.setCell ⟨b4, 0, none⟩ (.int .i64 (costsB ls plan))) enters_costs1
   ((costs1_yes _ _ _ ls wants plan w.heap.size (w.heap.size + 1) (w.heap.size + 1 + 1) b4 x (tryW w1) hS (HIN.out _ ((HX0.out.trans hx).alloc _)).1 (HIN.out _ ((HX0.out.trans hx).alloc _)).2.1 (HIN.out _ ((HX0.out.trans hx).alloc _)).2.2 (HC.out _ (hx.alloc _)).1 (HC.out _ (hx.alloc _)).2.1 (HC.out _ (hx.alloc _)).2.2
    (((Ext.refl w1).alloc _).cell q0) ((((Ext.refl w1).alloc _).frozen (lt_of_cell q0)).trans q1) i2).mono
    (fun e w' hh => by
     obtain ⟨rfl, w2, hx2, rfl⟩ := hh
     have hne : ¬ w1.heap.size = b4 := fun e => by have := lt_of_cell q0; simp only at this; omega
     have hT : Touch (· = b4) w2 (w2.setCell ⟨b4, 0, none⟩ (.int .i64 (costsB ls plan))) := Touch.setCell _ rfl
     have hc : w2.cell? ⟨w1.heap.size, 0, none⟩ = some (.int .i64 0) := hx2.cell (by go_simp)
     have hf : w2.frozen? ⟨w1.heap.size, 0, none⟩ = false := (hx2.frozen (by simp)).trans (by go_simp)
     exact ⟨rfl, hT.cell hc hne, (hT.frozen hc hne).trans hf, w2, ((Ext.refl w1).alloc _).trans hx2, rfl⟩)))
  clear i1 i2 hS
  go_enter Tryz.func43, Tryz.ntmps43
  go_upto_region 1 with fail
  rw [← hW]
  clear hW
  go_upto_region 5 with (first
   | (go_at_call 79; refine (HAR.out _ HX0.out).mono ?_; rintro e w1 ⟨rfl, hx1⟩; have hxz : Ext W (w1.alloc (.cells #[.int .i64 0] 3)) := hx1.alloc _; have q0 : (w1.alloc (.cells #[.int .i64 0] 3)).cell? ⟨w1.heap.size, 0, none⟩ = some (.int .i64 0) := (by go_simp); have q1 : (w1.alloc (.cells #[.int .i64 0] 3)).frozen? ⟨w1.heap.size, 0, none⟩ = false := (by go_simp))
   | (go_at_call 94; refine (HTR.out _ hxz _ _ q0 q1).mono ?_; rintro e w4 ⟨rfl, w3, ⟨w2, hx2, rfl⟩, rfl⟩))
  have hT2 : Touch (· = w1.heap.size) w2 (w2.setCell ⟨w1.heap.size, 0, none⟩ (.int .i64 (costsB ls plan))) := Touch.setCell _ rfl
  have hc2 : (w2.setCell ⟨w1.heap.size, 0, none⟩ (.int .i64 (costsB ls plan))).cell? ⟨w1.heap.size, 0, none⟩ = some (.int .i64 (costsB ls plan)) := World.cell?_setCell_same _ _ _ (hx2.cell q0)
  have hT3 : Touch (· = w1.heap.size + 1) (w2.setCell ⟨w1.heap.size, 0, none⟩ (.int .i64 (costsB ls plan))) ((w2.setCell ⟨w1.heap.size, 0, none⟩ (.int .i64 (costsB ls plan))).setCell ⟨w1.heap.size + 1, 0, none⟩ (.int .i64 0)) := Touch.setCell _ rfl
  have hc3 := hT3.cell hc2 (by simp)
  have hxw : Ext w1 ((w2.setCell ⟨w1.heap.size, 0, none⟩ (.int .i64 (costsB ls plan))).setCell ⟨w1.heap.size + 1, 0, none⟩ (.int .i64 0)) := ((((Ext.refl w1).alloc _).trans hx2).setCell (by simp) _).setCell (by simp) _
  have HXW := Lib.hid ((HX0.out.trans hx1).trans hxw)
  generalize hW9 : ((w2.setCell ⟨w1.heap.size, 0, none⟩ (.int .i64 (costsB ls plan))).setCell ⟨w1.heap.size + 1, 0, none⟩ (.int .i64 0)) = W9 at *
  clear hW9 hT2 hT3 hc2 hxw hx2 q0 q1
  go_wp2
  go_ret2
  exact HYES.out _ HZ.out HXW.out
end Go.Proofs.YtpebafaigldldaaGreatDoor
