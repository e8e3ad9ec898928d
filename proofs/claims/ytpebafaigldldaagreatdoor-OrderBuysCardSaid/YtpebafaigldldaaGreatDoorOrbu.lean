/- The reference's Buy. -/
import Derived.Test.YtpebafaigldldaaGreatDoorOam
import Derived.Test.YtpebafaigldldaaGreatDoorOrv
namespace Go.Proofs.YtpebafaigldldaaGreatDoor
open Go.RowKit
theorem bto_no {ls : List Seller} {wants : List Int} {k : Nat} (h : fromB ls wants k = none) : bestOf ltB (boughtTo ls wants (k + 1)) = bestOf ltB (boughtTo ls wants k) := by rw [boughtTo_none h]
theorem bto_new {ls : List Seller} {wants : List Int} {k : Nat} {p : List (List Int)} (h : fromB ls wants k = some p) (hn : bestOf ltB (boughtTo ls wants k) = none) : bestOf ltB (boughtTo ls wants (k + 1)) = some (p, costsB ls p, sellersOf p) := by
 rw [boughtTo_some h, best_push, hn]
theorem bto_on {ls : List Seller} {wants : List Int} {k : Nat} {p : List (List Int)} {x : Bought} (h : fromB ls wants k = some p) (hn : bestOf ltB (boughtTo ls wants k) = some x) : bestOf ltB (boughtTo ls wants (k + 1)) = some (if ltB (p, costsB ls p, sellersOf p) x then (p, costsB ls p, sellersOf p) else x) := by
 rw [boughtTo_some h, best_push, hn]
/-- A purchase with what it costs. -/
def OwnB (ls : List Seller) (wants : List Int) (x : Bought) : Prop := PurchaseB ls wants x.1 ∧ x.2.1 = costsB ls x.1 ∧ x.2.2 = sellersOf x.1
theorem prefer_lt {ls : List Seller} {p : List (List Int)} {x : Bought} {wants : List Int} (h : OwnB ls wants x) : preferB ls p x.1 = ltB (p, costsB ls p, sellersOf p) x := by
 unfold preferB ltB
 rw [h.2.1, h.2.2]
def BestV (ls : List Seller) (wants : List Int) (k : Nat) (v : Value) (w : World) : Prop :=
 (bestOf ltB (boughtTo ls wants k) = none ∧ v = .slice none 0 0) ∨ ∃ x b c, bestOf ltB (boughtTo ls wants k) = some x ∧ OwnB ls wants x ∧ v = .slice (some ⟨b, 0, none⟩) x.1.length c ∧ IntRowsAt w v x.1
theorem BestV.ext {ls : List Seller} {wants : List Int} {k : Nat} {v : Value} {w w' : World} (h : BestV ls wants k v w) (x : Ext w w') : BestV ls wants k v w' := by
 rcases h with h | ⟨y, b, c, h1, h2, h3, h4⟩
 ·exact .inl h
 ·exact .inr ⟨y, b, c, h1, h2, h3, h4.ext x⟩
theorem among_no {ls : List Seller} {wants : List Int} {k : Nat} {w w' : World} {e : Ending} (h : AmongRes ls wants k w e w') (hf : fromB ls wants k = none) : Ext w w' ∧ e = .returned (.tuple #[.slice none 0 0, .bool false]) := by
 rcases h.2 with ⟨_, r⟩ | ⟨p, b, c, r, _⟩
 ·exact ⟨h.1, r⟩
 ·rw [hf] at r; cases r
theorem among_yes {ls : List Seller} {wants : List Int} {k : Nat} {w w' : World} {e : Ending} {p : List (List Int)} (h : AmongRes ls wants k w e w') (hf : fromB ls wants k = some p) : Ext w w' ∧ ∃ b c, e = .returned (.tuple #[.slice (some ⟨b, 0, none⟩) p.length c, .bool true]) ∧ IntRowsAt w' (.slice (some ⟨b, 0, none⟩) p.length c) p := by
 rcases h.2 with ⟨r, _⟩ | ⟨q, b, c, r, r2, r3⟩
 ·rw [hf] at r; cases r
 ·rw [hf] at r
  cases r
  exact ⟨h.1, b, c, r2, r3⟩
def RBuyRes (ls : List Seller) (wants : List Int) (w : World) (e : Ending) (w' : World) : Prop :=
 Ext w w' ∧ ((buyB ls wants = none ∧ e = .returned (.tuple #[.slice none 0 0, .bool false])) ∨ ∃ x b c, buyB ls wants = some x ∧ OwnB ls wants x ∧ e = .returned (.tuple #[.slice (some ⟨b, 0, none⟩) x.1.length c, .bool true]) ∧ IntRowsAt w' (.slice (some ⟨b, 0, none⟩) x.1.length c) x.1)
set_option maxRecDepth 100000 in
set_option maxHeartbeats 16000000 in
theorem rbuy_any (lv wv : Value) (ls : List Seller) (wants : List Int) (w : World) (hS : SellersB ls wants) (hl : SellersAt w lv ls) (hw : IntsAt w wv wants) :
 Calls Tryz.prog 36 #[lv, wv] w (RBuyRes ls wants w) := by
 have HIN := Lib.hid (fun W1 (h : Ext w W1) => (⟨hl.ext h, hw.ext h⟩ : _ ∧ _))
 obtain ⟨la, lc, rfl, hl1, hl2, -⟩ := hl.open
 have HS := Lib.hid hS
 have hn4 := hS.l4
 have hn1 := hS.l1
 have HPW := Lib.hid (fun W1 => rpower_any ls.length W1 (by omega))
 have h16 := pow_le_16 hn4
 obtain ⟨N, hN⟩ : ∃ N : Nat, N = 2 ^ ls.length := ⟨_, rfl⟩
 have hNI : (2 : Int) ^ ls.length = (N : Int) := by rw [hN]; push_cast; rfl
 rw [hNI] at HPW h16
 have HNN := Lib.hid hN
 have HPF0 := Lib.hid (fun (a b : List (List Int)) (hA : PurchaseB ls wants a) (hB : PurchaseB ls wants b) (av bv : Value) W1 (h : Ext w W1) (ha : IntRowsAt W1 av a) (hb : IntRowsAt W1 bv b) => rpreferred_any _ av bv ls wants a b W1 HS.out hA hB (HIN.out W1 h).1 ha hb)
 clear hl hw hS hN hNI hl1 hl2
 have he0 : ∀ W : World, (binOp .eql 33 (.slice none 0 0) (.slice none 0 0)).run Tryz.prog W = .ok (.bool true) W := fun _ => rfl
 have he1 : ∀ (W : World) (a : Addr) (n c : Nat), (binOp .eql 33 (.slice (some a) n c) (.slice none 0 0)).run Tryz.prog W = .ok (.bool false) W := fun _ _ _ _ => rfl
 have he2 : ∀ W : World, (binOp .neq 33 (.slice none 0 0) (.slice none 0 0)).run Tryz.prog W = .ok (.bool false) W := fun _ => rfl
 have he3 : ∀ (W : World) (a : Addr) (n c : Nat), (binOp .neq 33 (.slice (some a) n c) (.slice none 0 0)).run Tryz.prog W = .ok (.bool true) W := fun _ _ _ _ => rfl
 go_enter Tryz.func36, Tryz.ntmps36
 go_wp2
 go_loopw [6, 7] (fun bv j wr => ∃ k : Nat, k ≤ N ∧ j = .int .i64 (k : Int) ∧ Hid (BestV ls wants k bv wr) ∧ Ext w wr) (fun _ j _ => N - (intOf j).toNat)
 case atStart => exact ⟨0, Nat.zero_le _, rfl, .inl ⟨rfl, rfl⟩, Ext.refl _⟩
 case round =>
  obtain ⟨k, hk, rfl, hbv, hx⟩ := hrel
  have HX := Lib.hid hx
  by_cases hlt : k < N
  ·have x1 : decide ((k : Int) < (N : Int)) = true := by simpa using hlt
   cases hf : fromB ls wants k with
   | none =>
    have HAM := Lib.hid (fun W1 (h : Ext w W1) => (among_any _ _ ls wants k W1 HS.out (by omega) (HIN.out W1 h).1 (HIN.out W1 h).2).mono (fun e w' q => among_no (show AmongRes ls wants k W1 e w' from q) hf))
    have HBN := Lib.hid (fun W1 (h : Ext wr W1) => (show BestV ls wants (k + 1) _ W1 by have h1 := hbv.out.ext h; unfold BestV at h1 ⊢; rwa [bto_no hf]))
    clear hf hbv hx
    go_wp2_with (first | (go_at_call 88; refine (HPW.out _).mono ?_; rintro e w1 ⟨rfl, rfl⟩) | (go_at_call 89; refine (HAM.out _ HX.out).mono ?_; rintro e w' ⟨hx', rfl⟩; clear HAM; have HX' := Lib.hid (HX.out.trans hx'); have HZ := Lib.hid hx'; clear hx'))
    exact ⟨⟨k + 1, by omega, by go_num, HBN.out _ HZ.out, HX'.out⟩, by simp [intOf]; omega⟩
   | some p =>
    have HAM := Lib.hid (fun W1 (h : Ext w W1) => (among_any _ _ ls wants k W1 HS.out (by omega) (HIN.out W1 h).1 (HIN.out W1 h).2).mono (fun e w' q => among_yes (show AmongRes ls wants k W1 e w' from q) hf))
    have HF := Lib.hid hf
    have hpp := from_purchase HS.out hf
    have HPP := Lib.hid hpp
    have hob : OwnB ls wants (p, costsB ls p, sellersOf p) := ⟨hpp, rfl, rfl⟩
    have HOB := Lib.hid hob
    clear hf hx
    rcases hbv.out with ⟨hb1, rfl⟩ | ⟨x, gb, gc, hb1, hb2, rfl, hb3⟩
    ·have HBN := Lib.hid (bto_new HF.out hb1)
     clear hb1 hbv hpp hob
     go_wp2_with (first | (go_at_call 88; refine (HPW.out _).mono ?_; rintro e w1 ⟨rfl, rfl⟩) | (go_at_call 89; refine (HAM.out _ HX.out).mono ?_; rintro e w' ⟨hx', pb, pc, rfl, hpr⟩; clear HAM; have HX' := Lib.hid (HX.out.trans hx'); have HPR := Lib.hid hpr; have HZ := Lib.hid hx'; clear hx' hpr))
     exact ⟨⟨k + 1, by omega, by go_num, .inr ⟨_, pb, pc, HBN.out, HOB.out, rfl, HPR.out⟩, HX'.out⟩, by simp [intOf]; omega⟩
    ·have HBN := Lib.hid (bto_on HF.out hb1)
     have hpf := prefer_lt (p := p) hb2
     have HPF := Lib.hid (HPF0.out p x.1 hpp hb2.1)
     rw [hpf] at HPF
     have HBR := Lib.hid (fun W1 (h : Ext wr W1) => hb3.ext h)
     have HB2 := Lib.hid hb2
     cases hlb : ltB (p, costsB ls p, sellersOf p) x with
     | true =>
      rw [hlb] at HPF HBN
      clear hb1 hb2 hb3 hbv hpp hob hpf hlb HPF0
      go_wp2_with (first | (go_at_call 88; refine (HPW.out _).mono ?_; rintro e w1 ⟨rfl, rfl⟩) | (go_at_call 89; refine (HAM.out _ HX.out).mono ?_; rintro e w' ⟨hx', pb, pc, rfl, hpr⟩; clear HAM; have HX' := Lib.hid (HX.out.trans hx'); have HPR := Lib.hid hpr; have HZ := Lib.hid hx'; clear hx' hpr) | (go_at_call 45; refine (HPF.out _ _ _ HX'.out HPR.out (HBR.out _ HZ.out)).mono ?_; rintro e w9 ⟨rfl, hx9⟩; clear HPF; have HX9 := Lib.hid hx9; clear hx9))
      exact ⟨⟨k + 1, by omega, by go_num, .inr ⟨_, pb, pc, by rw [HBN.out]; rfl, HOB.out, rfl, HPR.out.ext HX9.out⟩, HX'.out.trans HX9.out⟩, by simp [intOf]; omega⟩
     | false =>
      rw [hlb] at HPF HBN
      clear hb1 hb2 hb3 hbv hpp hob hpf hlb HPF0
      go_wp2_with (first | (go_at_call 88; refine (HPW.out _).mono ?_; rintro e w1 ⟨rfl, rfl⟩) | (go_at_call 89; refine (HAM.out _ HX.out).mono ?_; rintro e w' ⟨hx', pb, pc, rfl, hpr⟩; clear HAM; have HX' := Lib.hid (HX.out.trans hx'); have HPR := Lib.hid hpr; have HZ := Lib.hid hx'; clear hx' hpr) | (go_at_call 45; refine (HPF.out _ _ _ HX'.out HPR.out (HBR.out _ HZ.out)).mono ?_; rintro e w9 ⟨rfl, hx9⟩; clear HPF; have HX9 := Lib.hid hx9; clear hx9))
      exact ⟨⟨k + 1, by omega, by go_num, .inr ⟨x, gb, gc, by rw [HBN.out]; rfl, HB2.out, rfl, HBR.out _ (HZ.out.trans HX9.out)⟩, HX'.out.trans HX9.out⟩, by simp [intOf]; omega⟩
  ·have x1 : decide ((k : Int) < (N : Int)) = false := by simpa using hlt
   have hke : k = N := by omega
   subst hke
   have hbe : bestOf ltB (boughtTo ls wants k) = buyB ls wants := by rw [HNN.out]; rfl
   have HBE := Lib.hid hbe
   rcases hbv.out with ⟨hb1, rfl⟩ | ⟨x, gb, gc, hb1, hb2, rfl, hb3⟩
   ·rw [hbe] at hb1
    have HB1 := Lib.hid hb1
    clear hb1 hbe hbv hx
    go_wp2_with (go_at_call 88; refine (HPW.out _).mono ?_; rintro e w1 ⟨rfl, rfl⟩)
    go_ret2
    exact ⟨HX.out, .inl ⟨HB1.out, rfl⟩⟩
   ·rw [hbe] at hb1
    have HB1 := Lib.hid hb1
    have HB2 := Lib.hid hb2
    have HB3 := Lib.hid hb3
    clear hb1 hb2 hb3 hbe hbv hx
    go_wp2_with (go_at_call 88; refine (HPW.out _).mono ?_; rintro e w1 ⟨rfl, rfl⟩)
    go_ret2
    exact ⟨HX.out, .inr ⟨x, gb, gc, HB1.out, HB2.out, rfl, HB3.out⟩⟩
end Go.Proofs.YtpebafaigldldaaGreatDoor
