/- OrderCosts, OrderRivals. -/
import Derived.Test.YtpebafaigldldaaGreatDoorOkn
import Derived.Test.YtpebafaigldldaaGreatDoorOrw
namespace Go.Proofs.YtpebafaigldldaaGreatDoor
open Go.RowKit
theorem calls_ext {P : Program} {f : Nat} {args : Array Value} {w : World} {v : Value} (h : Calls P f args w fun e w' => e = .returned v ∧ w = w') : Calls P f args w fun e w' => e = .returned v ∧ Ext w w' := h.mono fun _ _ q => ⟨q.1, q.2 ▸ Ext.refl _⟩
theorem costs_no {ls : List Seller} {wants : List Int} {p : List (List Int)} {w w' : World} {e : Ending} (h : CostsRes ls wants p w e w') (hf : (areSellersB ls wants && isPurchaseB ls wants p) = false) : e = .returned (.tuple #[.int .i64 0, .int .i64 2]) ∧ Ext w w' := by
 rcases h.2 with ⟨_, r⟩ | ⟨r, _⟩
 ·exact ⟨r, h.1⟩
 ·rw [hf] at r; cases r
theorem costs_yes {ls : List Seller} {wants : List Int} {p : List (List Int)} {w w' : World} {e : Ending} (h : CostsRes ls wants p w e w') (hf : (areSellersB ls wants && isPurchaseB ls wants p) = true) : e = .returned (.tuple #[.int .i64 (costsB ls p), .int .i64 0]) ∧ Ext w w' := by
 rcases h.2 with ⟨r, _⟩ | ⟨_, r⟩
 ·rw [hf] at r; cases r
 ·exact ⟨r, h.1⟩
set_option maxRecDepth 100000 in
set_option maxHeartbeats 8000000 in
theorem orderCosts_any (lv : Value) (ls : List Seller) (wv : Value) (wants : List Int) (pv : Value) (plan : List (List Int)) (w : World) (hl : SellersAt w lv ls) (hw : IntsAt w wv wants) (hp : IntRowsAt w pv plan) (ht : TabOk w) (hm : MaxOk w) :
  Calls Tryz.prog 10 #[lv, wv, pv] w fun e w' => e = .returned (.bool true) ∧ Ext w w' := by
 have HIN := Lib.hid (fun W1 (h : Ext w W1) => (⟨hl.ext h, hw.ext h, hp.ext h⟩ : _ ∧ _ ∧ _))
 obtain ⟨wa, wc, rfl, hw1, hw2, -⟩ := hw.open
 have HKN := Lib.hid (fun W1 (h : Ext w W1) => lknown_any W1 (ht.ext h) (hm.ext h))
 have HFW := Lib.hid (fun W1 (h : Ext w W1) => calls_ext (few_any lv ls W1 (HIN.out W1 h).1))
 have HSZ := Lib.hid (fun W1 (h : Ext w W1) => calls_ext (sized_any pv plan W1 (HIN.out W1 h).2.2))
 have hq := Ext.refl w
 clear hl hw hp ht hm
 cases i0 : fewB ls with
 | false =>
  rw [i0] at HFW
  clear i0
  go_enter Tryz.func10, Tryz.ntmps10
  go_wp2_with (first | (go_at_call 32; refine (HFW.out _ hq).mono ?_; rintro e w' ⟨rfl, hx⟩; clear HFW; have hq := hq.trans hx; clear hx) | (go_at_call 15; refine (HKN.out _ hq).mono ?_; rintro e w' ⟨rfl, hx⟩; clear HKN; have hq := hq.trans hx; clear hx))
  go_ret
  exact ⟨rfl, hq⟩
 | true =>
 rw [i0] at HFW
 by_cases i1 : 7 < wants.length
 ·have t1 : decide ((7 : Int) < (wants.length : Int)) = true := by simp; omega
  clear i0 i1
  go_enter Tryz.func10, Tryz.ntmps10
  go_wp2_with (first | (go_at_call 32; refine (HFW.out _ hq).mono ?_; rintro e w' ⟨rfl, hx⟩; clear HFW; have hq := hq.trans hx; clear hx) | (go_at_call 15; refine (HKN.out _ hq).mono ?_; rintro e w' ⟨rfl, hx⟩; clear HKN; have hq := hq.trans hx; clear hx))
  go_ret
  exact ⟨rfl, hq⟩
 have t1 : decide ((7 : Int) < (wants.length : Int)) = false := by simp; omega
 cases i2 : sizedB plan with
 | false =>
  rw [i2] at HSZ
  clear i0 i1 i2
  go_enter Tryz.func10, Tryz.ntmps10
  go_wp2_with (first | (go_at_call 32; refine (HFW.out _ hq).mono ?_; rintro e w' ⟨rfl, hx⟩; clear HFW; have hq := hq.trans hx; clear hx) | (go_at_call 42; refine (HSZ.out _ hq).mono ?_; rintro e w' ⟨rfl, hx⟩; clear HSZ; have hq := hq.trans hx; clear hx) | (go_at_call 15; refine (HKN.out _ hq).mono ?_; rintro e w' ⟨rfl, hx⟩; clear HKN; have hq := hq.trans hx; clear hx))
  go_ret
  exact ⟨rfl, hq⟩
 | true =>
 rw [i2] at HSZ
 have HCO := Lib.hid (fun W1 (h : Ext w W1) => Costs_any _ _ _ ls wants plan W1 (HIN.out W1 h).1 (HIN.out W1 h).2.1 (HIN.out W1 h).2.2)
 have HWA := Lib.hid (fun W1 (h : Ext w W1) => calls_ext (rwanted_any _ wants W1 (HIN.out W1 h).2.1))
 have HSE := Lib.hid (fun W1 (h : Ext w W1) => rsellers_any _ ls wants.length W1 (HIN.out W1 h).1 (by omega))
 clear i0 i1 i2
 cases i3 : isWantedB wants with
 | false =>
  rw [i3] at HWA
  have HCO := Lib.hid (fun W1 (h : Ext w W1) => (HCO.out W1 h).mono (fun e w' q => costs_no (show CostsRes ls wants plan W1 e w' from q) (by unfold areSellersB; rw [i3]; rfl)))
  clear i3
  go_enter Tryz.func10, Tryz.ntmps10
  go_wp2_with (first | (go_at_call 32; refine (HFW.out _ hq).mono ?_; rintro e w' ⟨rfl, hx⟩; clear HFW; have hq := hq.trans hx; clear hx) | (go_at_call 42; refine (HSZ.out _ hq).mono ?_; rintro e w' ⟨rfl, hx⟩; clear HSZ; have hq := hq.trans hx; clear hx) | (go_at_call 43; refine (HCO.out _ hq).mono ?_; rintro e w' ⟨rfl, hx⟩; clear HCO; have hq := hq.trans hx; clear hx) | (go_at_call 34; refine (HWA.out _ hq).mono ?_; rintro e w' ⟨rfl, hx⟩; clear HWA; have hq := hq.trans hx; clear hx) | (go_at_call 15; refine (HKN.out _ hq).mono ?_; rintro e w' ⟨rfl, hx⟩; clear HKN; have hq := hq.trans hx; clear hx))
  go_ret
  exact ⟨rfl, hq⟩
 | true =>
 rw [i3] at HWA
 cases i4 : isSellersB wants.length ls with
 | false =>
  rw [i4] at HSE
  have HCO := Lib.hid (fun W1 (h : Ext w W1) => (HCO.out W1 h).mono (fun e w' q => costs_no (show CostsRes ls wants plan W1 e w' from q) (by unfold areSellersB; rw [i3, i4]; rfl)))
  clear i3 i4
  go_enter Tryz.func10, Tryz.ntmps10
  go_wp2_with (first | (go_at_call 32; refine (HFW.out _ hq).mono ?_; rintro e w' ⟨rfl, hx⟩; clear HFW; have hq := hq.trans hx; clear hx) | (go_at_call 42; refine (HSZ.out _ hq).mono ?_; rintro e w' ⟨rfl, hx⟩; clear HSZ; have hq := hq.trans hx; clear hx) | (go_at_call 43; refine (HCO.out _ hq).mono ?_; rintro e w' ⟨rfl, hx⟩; clear HCO; have hq := hq.trans hx; clear hx) | (go_at_call 34; refine (HWA.out _ hq).mono ?_; rintro e w' ⟨rfl, hx⟩; clear HWA; have hq := hq.trans hx; clear hx) | (go_at_call 35; refine (HSE.out _ hq).mono ?_; rintro e w' ⟨rfl, hx⟩; clear HSE; have hq := hq.trans hx; clear hx) | (go_at_call 15; refine (HKN.out _ hq).mono ?_; rintro e w' ⟨rfl, hx⟩; clear HKN; have hq := hq.trans hx; clear hx))
  go_ret
  exact ⟨rfl, hq⟩
 | true =>
 rw [i4] at HSE
 have hS : SellersB ls wants := sellersB_iff.1 (by rw [i3, i4]; rfl)
 have HPU := Lib.hid (fun W1 (h : Ext w W1) => rpurchase_any _ _ _ ls wants plan W1 hS (HIN.out W1 h).1 (HIN.out W1 h).2.1 (HIN.out W1 h).2.2)
 cases i5 : isPurchaseB ls wants plan with
 | false =>
  rw [i5] at HPU
  have HCO := Lib.hid (fun W1 (h : Ext w W1) => (HCO.out W1 h).mono (fun e w' q => costs_no (show CostsRes ls wants plan W1 e w' from q) (by unfold areSellersB; rw [i3, i4, i5]; rfl)))
  clear i3 i4 i5 hS
  go_enter Tryz.func10, Tryz.ntmps10
  go_wp2_with (first | (go_at_call 32; refine (HFW.out _ hq).mono ?_; rintro e w' ⟨rfl, hx⟩; clear HFW; have hq := hq.trans hx; clear hx) | (go_at_call 42; refine (HSZ.out _ hq).mono ?_; rintro e w' ⟨rfl, hx⟩; clear HSZ; have hq := hq.trans hx; clear hx) | (go_at_call 43; refine (HCO.out _ hq).mono ?_; rintro e w' ⟨rfl, hx⟩; clear HCO; have hq := hq.trans hx; clear hx) | (go_at_call 34; refine (HWA.out _ hq).mono ?_; rintro e w' ⟨rfl, hx⟩; clear HWA; have hq := hq.trans hx; clear hx) | (go_at_call 35; refine (HSE.out _ hq).mono ?_; rintro e w' ⟨rfl, hx⟩; clear HSE; have hq := hq.trans hx; clear hx) | (go_at_call 44; refine (HPU.out _ hq).mono ?_; rintro e w' ⟨rfl, hx⟩; clear HPU; have hq := hq.trans hx; clear hx) | (go_at_call 15; refine (HKN.out _ hq).mono ?_; rintro e w' ⟨rfl, hx⟩; clear HKN; have hq := hq.trans hx; clear hx))
  go_ret
  exact ⟨rfl, hq⟩
 | true =>
  rw [i5] at HPU
  have HCO := Lib.hid (fun W1 (h : Ext w W1) => (HCO.out W1 h).mono (fun e w' q => costs_yes (show CostsRes ls wants plan W1 e w' from q) (by unfold areSellersB; rw [i3, i4, i5]; rfl)))
  have hP := (purchase_iff hS).1 i5
  have HRC := Lib.hid (fun W1 (h : Ext w W1) => rcosts_any _ _ ls wants plan W1 hS hP (HIN.out W1 h).1 (HIN.out W1 h).2.2)
  generalize costsB ls plan = c at *
  clear i3 i4 i5 hS hP
  go_enter Tryz.func10, Tryz.ntmps10
  go_wp2_with (first | (go_at_call 32; refine (HFW.out _ hq).mono ?_; rintro e w' ⟨rfl, hx⟩; clear HFW; have hq := hq.trans hx; clear hx) | (go_at_call 42; refine (HSZ.out _ hq).mono ?_; rintro e w' ⟨rfl, hx⟩; clear HSZ; have hq := hq.trans hx; clear hx) | (go_at_call 43; refine (HCO.out _ hq).mono ?_; rintro e w' ⟨rfl, hx⟩; clear HCO; have hq := hq.trans hx; clear hx) | (go_at_call 34; refine (HWA.out _ hq).mono ?_; rintro e w' ⟨rfl, hx⟩; clear HWA; have hq := hq.trans hx; clear hx) | (go_at_call 35; refine (HSE.out _ hq).mono ?_; rintro e w' ⟨rfl, hx⟩; clear HSE; have hq := hq.trans hx; clear hx) | (go_at_call 44; refine (HPU.out _ hq).mono ?_; rintro e w' ⟨rfl, hx⟩; clear HPU; have hq := hq.trans hx; clear hx) | (go_at_call 38; refine (HRC.out _ hq).mono ?_; rintro e w' ⟨rfl, hx⟩; clear HRC; have hq := hq.trans hx; clear hx) | (go_at_call 15; refine (HKN.out _ hq).mono ?_; rintro e w' ⟨rfl, hx⟩; clear HKN; have hq := hq.trans hx; clear hx))
  go_ret
  exact ⟨rfl, hq⟩
theorem buy_yes {ls : List Seller} {wants : List Int} {w w' : World} {e : Ending} {x : Bought} (h : BuyRes ls wants w e w') (hs : areSellersB ls wants = true) (hx : buyB ls wants = some x) : ∃ a c, e = .returned (.tuple #[.slice a x.1.length c, .int .i64 x.2.1, .int .i64 0]) ∧ IntRowsAt w' (.slice a x.1.length c) x.1 ∧ Ext w w' := by
 rcases h.2 with ⟨r, _⟩ | ⟨_, r, _⟩ | ⟨_, y, v, r1, r2, r3⟩
 ·rw [hs] at r; cases r
 ·rw [hx] at r; cases r
 ·rw [hx] at r1
  cases r1
  obtain ⟨a, c, rfl, _⟩ := r3.open
  exact ⟨a, c, r2, r3, h.1⟩
theorem sized_purch {ls : List Seller} {wants : List Int} {p : List (List Int)} (hS : SellersB ls wants) (hp : PurchaseB ls wants p) : sizedB p = true := by
 have h1 := hp.len; have h2 := hS.l4; have h3 := hS.w5
 unfold sizedB
 rw [decide_eq_true (show p.length ≤ 7 by omega), Bool.and_true, Bool.not_eq_true', List.any_eq_false]
 intro r hr
 have := (purchase_row hp (List.mem_of_mem_take hr)).1
 simp; omega
set_option maxRecDepth 100000 in
set_option maxHeartbeats 8000000 in
theorem orderRivals_any (lv : Value) (ls : List Seller) (wv : Value) (wants : List Int) (pv : Value) (other : List (List Int)) (w : World) (hl : SellersAt w lv ls) (hw : IntsAt w wv wants) (hp : IntRowsAt w pv other) (ht : TabOk w) (hm : MaxOk w) :
  Calls Tryz.prog 11 #[lv, wv, pv] w fun e w' => e = .returned (.bool true) ∧ Ext w w' := by
 have HIN := Lib.hid (fun W1 (h : Ext w W1) => (⟨hl.ext h, hw.ext h, hp.ext h⟩ : _ ∧ _ ∧ _))
 obtain ⟨wa, wc, rfl, hw1, hw2, -⟩ := hw.open
 have HKN := Lib.hid (fun W1 (h : Ext w W1) => lknown_any W1 (ht.ext h) (hm.ext h))
 have HFW := Lib.hid (fun W1 (h : Ext w W1) => calls_ext (few_any lv ls W1 (HIN.out W1 h).1))
 have HSZ := Lib.hid (fun W1 (h : Ext w W1) => calls_ext (sized_any pv other W1 (HIN.out W1 h).2.2))
 have hq := Ext.refl w
 clear hl hw hp ht hm
 cases i0 : fewB ls with
 | false =>
  rw [i0] at HFW
  clear i0
  go_enter Tryz.func11, Tryz.ntmps11
  go_wp2_with (first | (go_at_call 32; refine (HFW.out _ hq).mono ?_; rintro e w' ⟨rfl, hx⟩; clear HFW; have hq := hq.trans hx; clear hx) | (go_at_call 15; refine (HKN.out _ hq).mono ?_; rintro e w' ⟨rfl, hx⟩; clear HKN; have hq := hq.trans hx; clear hx))
  go_ret
  exact ⟨rfl, hq⟩
 | true =>
 rw [i0] at HFW
 by_cases i1 : 7 < wants.length
 ·have t1 : decide ((7 : Int) < (wants.length : Int)) = true := by simp; omega
  clear i0 i1
  go_enter Tryz.func11, Tryz.ntmps11
  go_wp2_with (first | (go_at_call 32; refine (HFW.out _ hq).mono ?_; rintro e w' ⟨rfl, hx⟩; clear HFW; have hq := hq.trans hx; clear hx) | (go_at_call 15; refine (HKN.out _ hq).mono ?_; rintro e w' ⟨rfl, hx⟩; clear HKN; have hq := hq.trans hx; clear hx))
  go_ret
  exact ⟨rfl, hq⟩
 have t1 : decide ((7 : Int) < (wants.length : Int)) = false := by simp; omega
 cases i2 : sizedB other with
 | false =>
  rw [i2] at HSZ
  clear i0 i1 i2
  go_enter Tryz.func11, Tryz.ntmps11
  go_wp2_with (first | (go_at_call 32; refine (HFW.out _ hq).mono ?_; rintro e w' ⟨rfl, hx⟩; clear HFW; have hq := hq.trans hx; clear hx) | (go_at_call 42; refine (HSZ.out _ hq).mono ?_; rintro e w' ⟨rfl, hx⟩; clear HSZ; have hq := hq.trans hx; clear hx) | (go_at_call 15; refine (HKN.out _ hq).mono ?_; rintro e w' ⟨rfl, hx⟩; clear HKN; have hq := hq.trans hx; clear hx))
  go_ret
  exact ⟨rfl, hq⟩
 | true =>
 rw [i2] at HSZ
 have HWA := Lib.hid (fun W1 (h : Ext w W1) => calls_ext (rwanted_any _ wants W1 (HIN.out W1 h).2.1))
 have HSE := Lib.hid (fun W1 (h : Ext w W1) => rsellers_any _ ls wants.length W1 (HIN.out W1 h).1 (by omega))
 clear i0 i1 i2
 cases i3 : isWantedB wants with
 | false =>
  rw [i3] at HWA
  clear i3
  go_enter Tryz.func11, Tryz.ntmps11
  go_wp2_with (first | (go_at_call 32; refine (HFW.out _ hq).mono ?_; rintro e w' ⟨rfl, hx⟩; clear HFW; have hq := hq.trans hx; clear hx) | (go_at_call 42; refine (HSZ.out _ hq).mono ?_; rintro e w' ⟨rfl, hx⟩; clear HSZ; have hq := hq.trans hx; clear hx) | (go_at_call 34; refine (HWA.out _ hq).mono ?_; rintro e w' ⟨rfl, hx⟩; clear HWA; have hq := hq.trans hx; clear hx) | (go_at_call 15; refine (HKN.out _ hq).mono ?_; rintro e w' ⟨rfl, hx⟩; clear HKN; have hq := hq.trans hx; clear hx))
  go_ret
  exact ⟨rfl, hq⟩
 | true =>
 rw [i3] at HWA
 cases i4 : isSellersB wants.length ls with
 | false =>
  rw [i4] at HSE
  clear i3 i4
  go_enter Tryz.func11, Tryz.ntmps11
  go_wp2_with (first | (go_at_call 32; refine (HFW.out _ hq).mono ?_; rintro e w' ⟨rfl, hx⟩; clear HFW; have hq := hq.trans hx; clear hx) | (go_at_call 42; refine (HSZ.out _ hq).mono ?_; rintro e w' ⟨rfl, hx⟩; clear HSZ; have hq := hq.trans hx; clear hx) | (go_at_call 34; refine (HWA.out _ hq).mono ?_; rintro e w' ⟨rfl, hx⟩; clear HWA; have hq := hq.trans hx; clear hx) | (go_at_call 35; refine (HSE.out _ hq).mono ?_; rintro e w' ⟨rfl, hx⟩; clear HSE; have hq := hq.trans hx; clear hx) | (go_at_call 15; refine (HKN.out _ hq).mono ?_; rintro e w' ⟨rfl, hx⟩; clear HKN; have hq := hq.trans hx; clear hx))
  go_ret
  exact ⟨rfl, hq⟩
 | true =>
 rw [i4] at HSE
 have hS : SellersB ls wants := sellersB_iff.1 (by rw [i3, i4]; rfl)
 have HPU := Lib.hid (fun W1 (h : Ext w W1) => rpurchase_any _ _ _ ls wants other W1 hS (HIN.out W1 h).1 (HIN.out W1 h).2.1 (HIN.out W1 h).2.2)
 cases i5 : isPurchaseB ls wants other with
 | false =>
  rw [i5] at HPU
  clear i3 i4 i5 hS
  go_enter Tryz.func11, Tryz.ntmps11
  go_wp2_with (first | (go_at_call 32; refine (HFW.out _ hq).mono ?_; rintro e w' ⟨rfl, hx⟩; clear HFW; have hq := hq.trans hx; clear hx) | (go_at_call 42; refine (HSZ.out _ hq).mono ?_; rintro e w' ⟨rfl, hx⟩; clear HSZ; have hq := hq.trans hx; clear hx) | (go_at_call 34; refine (HWA.out _ hq).mono ?_; rintro e w' ⟨rfl, hx⟩; clear HWA; have hq := hq.trans hx; clear hx) | (go_at_call 35; refine (HSE.out _ hq).mono ?_; rintro e w' ⟨rfl, hx⟩; clear HSE; have hq := hq.trans hx; clear hx) | (go_at_call 44; refine (HPU.out _ hq).mono ?_; rintro e w' ⟨rfl, hx⟩; clear HPU; have hq := hq.trans hx; clear hx) | (go_at_call 15; refine (HKN.out _ hq).mono ?_; rintro e w' ⟨rfl, hx⟩; clear HKN; have hq := hq.trans hx; clear hx))
  go_ret
  exact ⟨rfl, hq⟩
 | true =>
  rw [i5] at HPU
  have hA : areSellersB ls wants = true := by unfold areSellersB; rw [i3, i4]; rfl
  have hO := (purchase_iff hS).1 i5
  obtain ⟨⟨p, c, sn⟩, hx, hP, hc, hle, hpf⟩ := rivals_no hS hO
  simp only at hP hc hle hpf
  have HBU := Lib.hid (fun W1 (h : Ext w W1) => (Buy_any _ _ ls wants W1 (HIN.out W1 h).1 (HIN.out W1 h).2.1).mono (fun e w' q => buy_yes (show BuyRes ls wants W1 e w' from q) hA hx))
  have HCO := Lib.hid (fun W1 (h : Ext w W1) => (Costs_any _ _ _ ls wants other W1 (HIN.out W1 h).1 (HIN.out W1 h).2.1 (HIN.out W1 h).2.2).mono (fun e w' q => costs_yes (show CostsRes ls wants other W1 e w' from q) (by rw [hA, i5]; rfl)))
  have HNX := Lib.hid (fun W1 (h : Ext w W1) (v : Value) (hv : IntRowsAt W1 v p) => (⟨calls_ext (sized_any v p W1 hv), rpurchase_any _ _ _ ls wants p W1 hS (HIN.out W1 h).1 (HIN.out W1 h).2.1 hv,
   (Costs_any _ _ _ ls wants p W1 (HIN.out W1 h).1 (HIN.out W1 h).2.1 hv).mono (fun e w' q => costs_yes (show CostsRes ls wants p W1 e w' from q) (by rw [hA, (purchase_iff hS).2 hP]; rfl)), rpreferred_any _ _ _ ls wants other p W1 hS hO hP (HIN.out W1 h).1 (HIN.out W1 h).2.2 hv⟩ : _ ∧ _ ∧ _ ∧ _))
  rw [sized_purch hS hP, (purchase_iff hS).2 hP, hpf, ← hc] at HNX
  have g1 : decide (c ≤ costsB ls other) = true := by simpa using hle
  simp only at HBU
  generalize costsB ls other = co at *
  clear i3 i4 i5 hS hP hc hle hpf hx hO hA
  go_enter Tryz.func11, Tryz.ntmps11
  go_upto_region 4 with (first | (go_at_call 32; refine (HFW.out _ hq).mono ?_; rintro e w' ⟨rfl, hx⟩; clear HFW; have hq := hq.trans hx; clear hx) | (go_at_call 42; refine (HSZ.out _ hq).mono ?_; rintro e w' ⟨rfl, hx⟩; clear HSZ; have hq := hq.trans hx; clear hx) | (go_at_call 34; refine (HWA.out _ hq).mono ?_; rintro e w' ⟨rfl, hx⟩; clear HWA; have hq := hq.trans hx; clear hx) | (go_at_call 35; refine (HSE.out _ hq).mono ?_; rintro e w' ⟨rfl, hx⟩; clear HSE; have hq := hq.trans hx; clear hx) | (go_at_call 44; refine (HPU.out _ hq).mono ?_; rintro e w' ⟨rfl, hx⟩; clear HPU; have hq := hq.trans hx; clear hx) | (go_at_call 33; refine (HBU.out _ hq).mono ?_; rintro e w2 ⟨pa, pc, rfl, hpv, hx⟩; clear HBU; have hq := hq.trans hx; clear hx))
  have HSZ2 := Lib.hid (fun W1 (h : Ext w2 W1) => (HNX.out W1 (hq.trans h) _ (hpv.ext h)).1)
  have HPU2 := Lib.hid (fun W1 (h : Ext w2 W1) => (HNX.out W1 (hq.trans h) _ (hpv.ext h)).2.1)
  have HCO2 := Lib.hid (fun W1 (h : Ext w2 W1) => (HNX.out W1 (hq.trans h) _ (hpv.ext h)).2.2.1)
  have HPR := Lib.hid (fun W1 (h : Ext w2 W1) => (HNX.out W1 (hq.trans h) _ (hpv.ext h)).2.2.2)
  have HCO := Lib.hid (fun W1 (h : Ext w2 W1) => HCO.out W1 (hq.trans h))
  have HKN := Lib.hid (fun W1 (h : Ext w2 W1) => HKN.out W1 (hq.trans h))
  have HQ := Lib.hid hq
  clear hpv HNX hq HIN
  have hq := Ext.refl w2
  go_wp2_with (first | (go_at_call 43; refine (HCO.out _ hq).mono ?_; rintro e w' ⟨rfl, hx⟩; clear HCO; have hq := hq.trans hx; clear hx) | (go_at_call 42; refine (HSZ2.out _ hq).mono ?_; rintro e w' ⟨rfl, hx⟩; clear HSZ2; have hq := hq.trans hx; clear hx) | (go_at_call 44; refine (HPU2.out _ hq).mono ?_; rintro e w' ⟨rfl, hx⟩; clear HPU2; have hq := hq.trans hx; clear hx) | (go_at_call 43; refine (HCO2.out _ hq).mono ?_; rintro e w' ⟨rfl, hx⟩; clear HCO2; have hq := hq.trans hx; clear hx) | (go_at_call 45; refine (HPR.out _ hq).mono ?_; rintro e w' ⟨rfl, hx⟩; clear HPR; have hq := hq.trans hx; clear hx) | (go_at_call 15; refine (HKN.out _ hq).mono ?_; rintro e w' ⟨rfl, hx⟩; clear HKN; have hq := hq.trans hx; clear hx))
  go_ret
  exact ⟨rfl, HQ.out.trans hq⟩
end Go.Proofs.YtpebafaigldldaaGreatDoor
