/- OrderBuys. -/
import Derived.Test.YtpebafaigldldaaGreatDoorOkn
import Derived.Test.YtpebafaigldldaaGreatDoorOrbu
import Derived.Test.YtpebafaigldldaaGreatDoorOsa
namespace Go.Proofs.YtpebafaigldldaaGreatDoor
open Go.RowKit
theorem buy_bad {ls : List Seller} {wants : List Int} {w w' : World} {e : Ending} (h : BuyRes ls wants w e w') (hs : areSellersB ls wants = false) : e = .returned (.tuple #[.slice none 0 0, .int .i64 0, .int .i64 2]) ∧ Ext w w' := by
 rcases h.2 with ⟨_, r⟩ | ⟨r, _⟩ | ⟨r, _⟩
 ·exact ⟨r, h.1⟩
 ·rw [hs] at r; cases r
 ·rw [hs] at r; cases r
theorem buy_not {ls : List Seller} {wants : List Int} {w w' : World} {e : Ending} (h : BuyRes ls wants w e w') (hs : areSellersB ls wants = true) (hx : buyB ls wants = none) : e = .returned (.tuple #[.slice none 0 0, .int .i64 0, .int .i64 5]) ∧ Ext w w' := by
 rcases h.2 with ⟨r, _⟩ | ⟨_, _, r⟩ | ⟨_, y, v, r1, _⟩
 ·rw [hs] at r; cases r
 ·exact ⟨r, h.1⟩
 ·rw [hx] at r1; cases r1
theorem buy_got {ls : List Seller} {wants : List Int} {w w' : World} {e : Ending} {x : Bought} (h : BuyRes ls wants w e w') (hs : areSellersB ls wants = true) (hx : buyB ls wants = some x) : ∃ a c, e = .returned (.tuple #[.slice a x.1.length c, .int .i64 x.2.1, .int .i64 0]) ∧ IntRowsAt w' (.slice a x.1.length c) x.1 ∧ Ext w w' := by
 rcases h.2 with ⟨r, _⟩ | ⟨_, r, _⟩ | ⟨_, y, v, r1, r2, r3⟩
 ·rw [hs] at r; cases r
 ·rw [hx] at r; cases r
 ·rw [hx] at r1
  cases r1
  obtain ⟨a, c, rfl, _⟩ := r3.open
  exact ⟨a, c, r2, r3, h.1⟩
theorem rbuy_none {ls : List Seller} {wants : List Int} {w w' : World} {e : Ending} (h : RBuyRes ls wants w e w') (hx : buyB ls wants = none) : Ext w w' ∧ e = .returned (.tuple #[.slice none 0 0, .bool false]) := by
 rcases h.2 with ⟨_, r⟩ | ⟨x, b, c, r, _⟩
 ·exact ⟨h.1, r⟩
 ·rw [hx] at r; cases r
theorem rbuy_some {ls : List Seller} {wants : List Int} {w w' : World} {e : Ending} {x : Bought} (h : RBuyRes ls wants w e w') (hx : buyB ls wants = some x) : Ext w w' ∧ ∃ b c, e = .returned (.tuple #[.slice (some ⟨b, 0, none⟩) x.1.length c, .bool true]) ∧ IntRowsAt w' (.slice (some ⟨b, 0, none⟩) x.1.length c) x.1 := by
 rcases h.2 with ⟨r, _⟩ | ⟨y, b, c, r, _, r2, r3⟩
 ·rw [hx] at r; cases r
 ·rw [hx] at r
  cases r
  exact ⟨h.1, b, c, r2, r3⟩
theorem bestTo_own {ls : List Seller} {wants : List Int} (hS : SellersB ls wants) : ∀ (k : Nat) (x : Bought), bestOf ltB (boughtTo ls wants k) = some x → OwnB ls wants x
 | 0, x, h => by cases h
 | k + 1, x, h => by
  cases hf : fromB ls wants k with
  | none => rw [bto_no hf] at h; exact bestTo_own hS k x h
  | some p =>
   have hp := from_purchase hS hf
   cases hb : bestOf ltB (boughtTo ls wants k) with
   | none => rw [bto_new hf hb] at h; cases h; exact ⟨hp, rfl, rfl⟩
   | some y =>
    rw [bto_on hf hb] at h
    have hy := bestTo_own hS k y hb
    cases hl : ltB (p, costsB ls p, sellersOf p) y with
    | true => rw [hl] at h; cases h; exact ⟨hp, rfl, rfl⟩
    | false => rw [hl] at h; cases h; exact hy
set_option maxRecDepth 100000 in
set_option maxHeartbeats 8000000 in
theorem orderBuys_any (lv : Value) (ls : List Seller) (wv : Value) (wants : List Int) (w : World) (hl : SellersAt w lv ls) (hw : IntsAt w wv wants) (ht : TabOk w) (hm : MaxOk w) :
  Calls Tryz.prog 7 #[lv, wv] w fun e w' => e = .returned (.bool true) ∧ Ext w w' := by
 have HIN := Lib.hid (fun W1 (h : Ext w W1) => (⟨hl.ext h, hw.ext h⟩ : _ ∧ _))
 obtain ⟨wa, wc, rfl, hw1, hw2, -⟩ := hw.open
 have HKN := Lib.hid (fun W1 (h : Ext w W1) => lknown_any W1 (ht.ext h) (hm.ext h))
 have HFW := Lib.hid (fun W1 (h : Ext w W1) => calls_ext (few_any lv ls W1 (HIN.out W1 h).1))
 have hq := Ext.refl w
 clear hl hw ht hm
 cases i0 : fewB ls with
 | false =>
  rw [i0] at HFW
  clear i0
  go_enter Tryz.func7, Tryz.ntmps7
  go_wp2_with (first | (go_at_call 32; refine (HFW.out _ hq).mono ?_; rintro e w' ⟨rfl, hx⟩; clear HFW; have hq := hq.trans hx; clear hx) | (go_at_call 15; refine (HKN.out _ hq).mono ?_; rintro e w' ⟨rfl, hx⟩; clear HKN; have hq := hq.trans hx; clear hx))
  go_ret
  exact ⟨rfl, hq⟩
 | true =>
 rw [i0] at HFW
 by_cases i1 : 7 < wants.length
 ·have t1 : decide ((7 : Int) < (wants.length : Int)) = true := by simp; omega
  clear i0 i1
  go_enter Tryz.func7, Tryz.ntmps7
  go_wp2_with (first | (go_at_call 32; refine (HFW.out _ hq).mono ?_; rintro e w' ⟨rfl, hx⟩; clear HFW; have hq := hq.trans hx; clear hx) | (go_at_call 15; refine (HKN.out _ hq).mono ?_; rintro e w' ⟨rfl, hx⟩; clear HKN; have hq := hq.trans hx; clear hx))
  go_ret
  exact ⟨rfl, hq⟩
 have t1 : decide ((7 : Int) < (wants.length : Int)) = false := by simp; omega
 have HWA := Lib.hid (fun W1 (h : Ext w W1) => calls_ext (rwanted_any _ wants W1 (HIN.out W1 h).2))
 have HSE := Lib.hid (fun W1 (h : Ext w W1) => rsellers_any _ ls wants.length W1 (HIN.out W1 h).1 (by omega))
 have HBU0 := Lib.hid (fun W1 (h : Ext w W1) => Buy_any _ _ ls wants W1 (HIN.out W1 h).1 (HIN.out W1 h).2)
 clear i0 i1
 cases i3 : isWantedB wants with
 | false =>
  rw [i3] at HWA
  have HBU := Lib.hid (fun W1 (h : Ext w W1) => (HBU0.out W1 h).mono (fun e w' q => buy_bad (show BuyRes ls wants W1 e w' from q) (by unfold areSellersB; rw [i3]; rfl)))
  clear i3 HBU0
  go_enter Tryz.func7, Tryz.ntmps7
  go_wp2_with (first | (go_at_call 32; refine (HFW.out _ hq).mono ?_; rintro e w' ⟨rfl, hx⟩; clear HFW; have hq := hq.trans hx; clear hx) | (go_at_call 33; refine (HBU.out _ hq).mono ?_; rintro e w2 ⟨rfl, hx⟩; clear HBU; have hq := hq.trans hx; clear hx) | (go_at_call 34; refine (HWA.out _ hq).mono ?_; rintro e w' ⟨rfl, hx⟩; clear HWA; have hq := hq.trans hx; clear hx) | (go_at_call 15; refine (HKN.out _ hq).mono ?_; rintro e w' ⟨rfl, hx⟩; clear HKN; have hq := hq.trans hx; clear hx))
  go_ret
  exact ⟨rfl, hq⟩
 | true =>
 rw [i3] at HWA
 cases i4 : isSellersB wants.length ls with
 | false =>
  rw [i4] at HSE
  have HBU := Lib.hid (fun W1 (h : Ext w W1) => (HBU0.out W1 h).mono (fun e w' q => buy_bad (show BuyRes ls wants W1 e w' from q) (by unfold areSellersB; rw [i3, i4]; rfl)))
  clear i3 i4 HBU0
  go_enter Tryz.func7, Tryz.ntmps7
  go_wp2_with (first | (go_at_call 32; refine (HFW.out _ hq).mono ?_; rintro e w' ⟨rfl, hx⟩; clear HFW; have hq := hq.trans hx; clear hx) | (go_at_call 33; refine (HBU.out _ hq).mono ?_; rintro e w2 ⟨rfl, hx⟩; clear HBU; have hq := hq.trans hx; clear hx) | (go_at_call 34; refine (HWA.out _ hq).mono ?_; rintro e w' ⟨rfl, hx⟩; clear HWA; have hq := hq.trans hx; clear hx) | (go_at_call 35; refine (HSE.out _ hq).mono ?_; rintro e w' ⟨rfl, hx⟩; clear HSE; have hq := hq.trans hx; clear hx) | (go_at_call 15; refine (HKN.out _ hq).mono ?_; rintro e w' ⟨rfl, hx⟩; clear HKN; have hq := hq.trans hx; clear hx))
  go_ret
  exact ⟨rfl, hq⟩
 | true =>
 rw [i4] at HSE
 have hA : areSellersB ls wants = true := by unfold areSellersB; rw [i3, i4]; rfl
 have hS : SellersB ls wants := sellersB_iff.1 (by rw [i3, i4]; rfl)
 have HRB0 := Lib.hid (fun W1 (h : Ext w W1) => rbuy_any _ _ ls wants W1 hS (HIN.out W1 h).1 (HIN.out W1 h).2)
 cases hb : buyB ls wants with
 | none =>
  have HBU := Lib.hid (fun W1 (h : Ext w W1) => (HBU0.out W1 h).mono (fun e w' q => buy_not (show BuyRes ls wants W1 e w' from q) hA hb))
  have HRB := Lib.hid (fun W1 (h : Ext w W1) => (HRB0.out W1 h).mono (fun e w' q => rbuy_none (show RBuyRes ls wants W1 e w' from q) hb))
  clear i3 i4 HBU0 HRB0 hA hS hb
  go_enter Tryz.func7, Tryz.ntmps7
  go_wp2_with (first | (go_at_call 32; refine (HFW.out _ hq).mono ?_; rintro e w' ⟨rfl, hx⟩; clear HFW; have hq := hq.trans hx; clear hx) | (go_at_call 33; refine (HBU.out _ hq).mono ?_; rintro e w2 ⟨rfl, hx⟩; clear HBU; have hq := hq.trans hx; clear hx) | (go_at_call 34; refine (HWA.out _ hq).mono ?_; rintro e w' ⟨rfl, hx⟩; clear HWA; have hq := hq.trans hx; clear hx) | (go_at_call 35; refine (HSE.out _ hq).mono ?_; rintro e w' ⟨rfl, hx⟩; clear HSE; have hq := hq.trans hx; clear hx) | (go_at_call 36; refine (HRB.out _ hq).mono ?_; rintro e w3 ⟨hx, rfl⟩; clear HRB; have hq := hq.trans hx; clear hx) | (go_at_call 15; refine (HKN.out _ hq).mono ?_; rintro e w' ⟨rfl, hx⟩; clear HKN; have hq := hq.trans hx; clear hx))
  go_ret
  exact ⟨rfl, hq⟩
 | some x =>
  obtain ⟨hp, hc, _⟩ := bestTo_own hS (2 ^ ls.length) x hb
  have HBU := Lib.hid (fun W1 (h : Ext w W1) => (HBU0.out W1 h).mono (fun e w' q => buy_got (show BuyRes ls wants W1 e w' from q) hA hb))
  have HRB := Lib.hid (fun W1 (h : Ext w W1) => (HRB0.out W1 h).mono (fun e w' q => rbuy_some (show RBuyRes ls wants W1 e w' from q) hb))
  have HRC := Lib.hid (fun (pv : Value) W1 (h : Ext w W1) (h2 : IntRowsAt W1 pv x.1) => rcosts_any _ pv ls wants x.1 W1 hS hp (HIN.out W1 h).1 h2)
  rw [← hc] at HRC
  obtain ⟨p, n, m⟩ := x
  simp only at HBU HRB HRC
  have HSL := Lib.hid (fun (a b : Value) W1 (h1 : IntRowsAt W1 a p) (h2 : IntRowsAt W1 b p) => sameLL_yes a b p W1 h1 h2)
  have t2 : (n == n) = true := by simp
  have t3 : decide (n = n) = true := by simp
  clear i3 i4 HBU0 HRB0 hA hS hb hp hc
  go_enter Tryz.func7, Tryz.ntmps7
  go_wp2_with (first | (go_at_call 32; refine (HFW.out _ hq).mono ?_; rintro e w' ⟨rfl, hx⟩; clear HFW; have hq := hq.trans hx; clear hx) | (go_at_call 33; refine (HBU.out _ hq).mono ?_; rintro e w2 ⟨pa, pc, rfl, hpv, hx⟩; clear HBU; have hq := hq.trans hx; clear hx) | (go_at_call 34; refine (HWA.out _ hq).mono ?_; rintro e w' ⟨rfl, hx⟩; clear HWA; have hpv := hpv.ext hx; have hq := hq.trans hx; clear hx) | (go_at_call 35; refine (HSE.out _ hq).mono ?_; rintro e w' ⟨rfl, hx⟩; clear HSE; have hpv := hpv.ext hx; have hq := hq.trans hx; clear hx) | (go_at_call 36; refine (HRB.out _ hq).mono ?_; rintro e w3 ⟨hx, rb, rc, rfl, hrv⟩; clear HRB; have hpv := hpv.ext hx; have hq := hq.trans hx; clear hx) | (go_at_call 37; refine (HSL.out _ _ _ hpv hrv).mono ?_; rintro e w4 ⟨rfl, hx⟩; clear HSL; have hrv := hrv.ext hx; have hq := hq.trans hx; clear hx) | (go_at_call 38; refine (HRC.out _ _ hq hrv).mono ?_; rintro e w5 ⟨rfl, hx⟩; clear HRC; have hq := hq.trans hx; clear hx) | (go_at_call 15; refine (HKN.out _ hq).mono ?_; rintro e w' ⟨rfl, hx⟩; clear HKN; have hq := hq.trans hx; clear hx))
  go_ret
  exact ⟨rfl, hq⟩
end Go.Proofs.YtpebafaigldldaaGreatDoor
