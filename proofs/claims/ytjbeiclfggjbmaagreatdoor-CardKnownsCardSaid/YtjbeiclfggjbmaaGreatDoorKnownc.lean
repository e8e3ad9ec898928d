/- The law's 'known' is true. -/
import Derived.Test.YtjbeiclfggjbmaaGreatDoorKnownb
namespace Go.Proofs.YtjbeiclfggjbmaaGreatDoor
open Go.RowKit

theorem k_Pay (v : Value) (w : World) (hk : IntsAt w v [50, 94, 50]) : Calls Tryz.prog 41 #[.int .i64 10, .int .i64 100, v] w fun e w' => ∃ (a : Option Addr) (c : Nat), e = .returned (.tuple #[.slice a 3 c, .int .i64 6, .int .i64 0]) ∧ Ext w w' ∧ IntsAt w' (.slice a 3 c) [10, 0, 10] :=
  (pay_any 10 100 v [50, 94, 50] w hk).mono fun e w' h => by
    obtain ⟨v1, h1, h2, h3⟩ := h
    rw [if_pos ev_payOk, if_pos ev_payOk, ev_pay] at h1
    rw [if_pos ev_payOk, ev_pay] at h2
    obtain ⟨a, c, rfl, _⟩ := h2.open
    exact ⟨a, c, h1, h3, h2⟩
theorem kints_new (W : World) (cs : Array Value) (n : Nat) (xs : List Int) (hn : n ≤ maxLen) (h : cs.toList = xs.map (.int .i64)) (hl : xs.length = n) : IntsAt (W.alloc (.cells cs 3)) (.slice (some ⟨W.heap.size, 0, none⟩) n n) xs := by
  have := RowAt.new W cs 3 n n (Nat.le_refl _) hn
  unfold IntsAt; rw [hl, ← h]; exact this
theorem three_le : 3 ≤ maxLen := by unfold maxLen; omega
theorem two_le : 2 ≤ maxLen := by unfold maxLen; omega
theorem spans_new (W : World) (cs : Array Value) (n : Nat) (ks : List (Int × Int)) (hn : n ≤ maxLen) (h : cs.toList = ks.flatMap spanCells) (hl : ks.length = n) : SpansAt (W.alloc (.cells cs 23)) (.slice (some ⟨W.heap.size, 0, none⟩) n n) ks := by
  have := RowAt.new W cs 23 n n (Nat.le_refl _) hn
  unfold SpansAt; rw [hl, ← h]; exact this
theorem sameSpans_yes (va vb : Value) (xs : List (Int × Int)) (w : World) (ha : SpansAt w va xs) (hb : SpansAt w vb xs) : Calls Tryz.prog 29 #[va, vb] w fun e w' => e = .returned (.bool true) ∧ Ext w w' :=
  (sameSpans_any va vb xs xs w ha hb).mono fun e w' h => by rw [decide_eq_true (rfl : xs = xs)] at h; exact h
theorem same_yes (va vb : Value) (xs : List Int) (w : World) (ha : IntsAt w va xs) (hb : IntsAt w vb xs) : Calls Tryz.prog 34 #[va, vb] w fun e w' => e = .returned (.bool true) ∧ Ext w w' :=
  (same_any va vb xs xs w ha hb).mono fun e w' h => by rw [decide_eq_true (rfl : xs = xs)] at h; exact h
theorem samePlan_yes (va vb : Value) (xs : List (List Int)) (w : World) (ha : RowsAt w va xs) (hb : RowsAt w vb xs) : Calls Tryz.prog 58 #[va, vb] w fun e w' => e = .returned (.bool true) ∧ Ext w w' :=
  (samePlan_any va vb xs xs w ha hb).mono fun e w' h => by rw [decide_eq_true (rfl : xs = xs)] at h; exact h
theorem rows_new (W : World) : RowsAt (((W.alloc (.cells #[.int .i64 1] 3)).alloc (.cells #[.int .i64 2, .int .i64 3] 3)).alloc (.cells #[.slice (some ⟨W.heap.size, 0, none⟩) 1 1, .slice (some ⟨W.heap.size + 1, 0, none⟩) 2 2] 36)) (.slice (some ⟨W.heap.size + 1 + 1, 0, none⟩) 2 2) [[1], [2, 3]] := by
  have h1 : IntsAt (W.alloc (.cells #[.int .i64 1] 3)) (.slice (some ⟨W.heap.size, 0, none⟩) 1 1) [1] := kints_new W _ 1 [1] one_le_maxLen rfl rfl
  have h2 : IntsAt ((W.alloc (.cells #[.int .i64 1] 3)).alloc (.cells #[.int .i64 2, .int .i64 3] 3)) (.slice (some ⟨W.heap.size + 1, 0, none⟩) 2 2) [2, 3] := by
    have := kints_new (W.alloc (.cells #[.int .i64 1] 3)) #[.int .i64 2, .int .i64 3] 2 [2, 3] two_le rfl rfl
    rwa [World.size_alloc] at this
  have h3 : RowAt (((W.alloc (.cells #[.int .i64 1] 3)).alloc (.cells #[.int .i64 2, .int .i64 3] 3)).alloc (.cells #[.slice (some ⟨W.heap.size, 0, none⟩) 1 1, .slice (some ⟨W.heap.size + 1, 0, none⟩) 2 2] 36)) (.slice (some ⟨W.heap.size + 1 + 1, 0, none⟩) 2 2) 2 [.slice (some ⟨W.heap.size, 0, none⟩) 1 1, .slice (some ⟨W.heap.size + 1, 0, none⟩) 2 2] := by
    have := RowAt.new ((W.alloc (.cells #[.int .i64 1] 3)).alloc (.cells #[.int .i64 2, .int .i64 3] 3)) #[.slice (some ⟨W.heap.size, 0, none⟩) 1 1, .slice (some ⟨W.heap.size + 1, 0, none⟩) 2 2] 36 2 2 (Nat.le_refl _) two_le
    rwa [World.size_alloc, World.size_alloc] at this
  refine ⟨_, rfl, h3, fun i x xs hx hxs => ?_⟩
  match i, hx, hxs with
  | 0, hx, hxs => cases hx; cases hxs; exact (h1.ext ((Ext.refl _).alloc _)).ext ((Ext.refl _).alloc _)
  | 1, hx, hxs => cases hx; cases hxs; exact h2.ext ((Ext.refl _).alloc _)
  | i + 2, hx, hxs => simp at hx
theorem k_text : textT rR = [114, 111, 117, 110, 100, 32, 49, 50, 32, 50, 10, 119, 101, 105, 103, 104, 32, 50, 32, 51, 32, 53, 32, 52, 10, 104, 111, 117, 115, 101, 32, 54, 48, 32, 53, 32, 52, 32, 55, 32, 49, 32, 49, 56, 53, 10, 104, 111, 117, 115, 101, 32, 53, 48, 32, 52, 32, 51, 32, 57, 32, 49, 32, 49, 53, 48, 10, 97, 108, 108, 32, 49, 48, 48, 32, 48, 10, 101, 110, 100, 32, 48, 50, 57, 10] := ev_text
set_option maxRecDepth 100000 in
set_option maxHeartbeats 8000000 in
theorem lknown_any (w : World) (ht : TabOk w) : Calls Tryz.prog 25 #[] w fun e w' => e = .returned (.bool true) ∧ Ext w w' := by
  have hmix : Tryz.prog.follows .mixedOrders = true := by kernel_rfl
  have HT := Lib.hid ht
  clear ht
  go_enter Tryz.func25, Tryz.ntmps25
  go_wp2_with fail
  refine (k_R _).mono ?_
  rintro e w1 ⟨b1, rfl, hx1, hr1⟩
  go_wp2_with fail
  refine (k_Known _ _ hr1).mono ?_
  rintro e w2 ⟨ka, kc, rfl, hx2, hk⟩
  have HK := Lib.hid hk
  clear hr1 hk
  go_wp2_with fail
  refine (k_Q _).mono ?_
  rintro e w3 ⟨b3, rfl, hx3, hr3⟩
  go_wp2_with fail
  refine (k_Agree _ _ hr3).mono ?_
  rintro e w4 ⟨rfl, hx4⟩
  clear hr3
  go_wp2_with fail
  refine (k_Q _).mono ?_
  rintro e w5 ⟨b5, rfl, hx5, hr5⟩
  go_wp2_with fail
  refine (k_Wrong _ _ hr5).mono ?_
  rintro e w6 ⟨wa, wc, rfl, hx6, hw⟩
  have HW := Lib.hid hw
  clear hr5 hw
  go_wp2_with fail
  refine (k_Q _).mono ?_
  rintro e w7 ⟨b7, rfl, hx7, hr7⟩
  go_wp2_with fail
  refine (k_Mends _ _ hr7).mono ?_
  rintro e w8 ⟨rfl, hx8⟩
  clear hr7
  have HM := Lib.hid (World.alloc_heap_new w8 (.cells #[.int .i64 45, .int .i64 46] 23))
  go_wp2_with fail
  refine (k_R _).mono ?_
  rintro e w9 ⟨b9, rfl, hx9, hr9⟩
  have HR9 := Lib.hid (hr9.ext ((Ext.refl w9).alloc (.cells #[.int .i64 89, .int .i64 99] 3)))
  clear hr9
  go_wp2_with fail
  refine (k_Due _ _ _ HR9.out (kints_new _ _ 2 [89, 99] (by have := three_le; omega) rfl rfl)).mono ?_
  rintro e w10 ⟨da, dc, rfl, hx10, hd⟩
  have HD := Lib.hid hd
  clear hd
  go_wp2_with fail
  refine (k_Pay _ _ (kints_new _ _ 3 [50, 94, 50] three_le rfl rfl)).mono ?_
  rintro e w11 ⟨pa, pc, rfl, hx11, hp⟩
  have HP := Lib.hid hp
  clear hp
  go_wp2_with fail
  refine (k_C _).mono ?_
  rintro e w12 ⟨ca1, ca2, cn1, cn2, cc1, cc2, rfl, hx12, hc12⟩
  have HC12 := Lib.hid (hc12.ext ((Ext.refl w12).alloc (.cells #[.int .i64 1, .int .i64 2] 3)))
  clear hc12
  go_wp2_with fail
  refine (k_Tour _ _ _ HC12.out (kints_new _ _ 2 [1, 2] (by have := three_le; omega) rfl rfl)).mono ?_
  rintro e w13 ⟨ta, tc, rfl, hx13, htr⟩
  have HTR := Lib.hid htr
  clear htr
  go_wp2_with fail
  refine (k_C _).mono ?_
  rintro e w14 ⟨ca3, ca4, cn3, cn4, cc3, cc4, rfl, hx14, hc14⟩
  have HC14 := Lib.hid hc14
  clear hc14
  go_wp2_with fail
  refine (k_Plan _ _ HC14.out).mono ?_
  rintro e w15 ⟨la, lc, rfl, hx15, hl⟩
  have HL := Lib.hid hl
  clear hl
  go_wp2_with fail
  refine (k_K _).mono ?_
  rintro e w16 ⟨xa, xc, rfl, hx16, hk16⟩
  have HK16 := Lib.hid hk16
  clear hk16
  go_wp2_with fail
  refine (k_Fill _ _ HK16.out).mono ?_
  rintro e w17 ⟨fa, fc, rfl, hx17, hf⟩
  have HF := Lib.hid hf
  clear hf
  go_wp2_with fail
  refine (k_R _).mono ?_
  rintro e w18 ⟨b18, rfl, hx18, hr18⟩
  have HR18 := Lib.hid hr18
  clear hr18
  have e2 := hx1.trans hx2
  have e4 := (e2.trans hx3).trans hx4
  have e6 := (e4.trans hx5).trans hx6
  have e8 := (e6.trans hx7).trans hx8
  have e9 := (e8.alloc _).trans hx9
  have e10 := (e9.alloc _).trans hx10
  have e11 := (e10.alloc _).trans hx11
  have e12 := e11.trans hx12
  have e13 := (e12.alloc _).trans hx13
  have e15 := (e13.trans hx14).trans hx15
  have e18 := ((e15.trans hx16).trans hx17).trans hx18
  clear e2 e4 e6 e8 e9 e10 e11 e12 e13 e15
  go_wp2_with fail
  have hpr := k_Print _ _ HR18.out (HT.out.ext e18)
  rw [k_text] at hpr
  refine hpr.mono ?_
  rintro e w19 ⟨rfl, hx19⟩
  have e19 := e18.trans hx19
  have g17 := hx18.trans hx19
  have g16 := hx17.trans g17
  have g15 := hx16.trans g16
  have g14 := hx15.trans g15
  have g13 := hx14.trans g14
  have g12 := ((Ext.refl w12).alloc _).trans (hx13.trans g13)
  have g11 := hx12.trans g12
  have g10 := ((Ext.refl w10).alloc _).trans (hx11.trans g11)
  have g9 := ((Ext.refl w9).alloc _).trans (hx10.trans g10)
  have g8a := hx9.trans g9
  have g8 := ((Ext.refl w8).alloc _).trans g8a
  have g6 := (hx7.trans hx8).trans g8
  have g2 := ((hx3.trans hx4).trans (hx5.trans hx6)).trans g6
  have HK2 := Lib.hid (fun W (h : Ext w19 W) => HK.out.ext (g2.trans h))
  have HW2 := Lib.hid (fun W (h : Ext w19 W) => HW.out.ext (g6.trans h))
  have HD2 := Lib.hid (fun W (h : Ext w19 W) => HD.out.ext (g10.trans h))
  have HP2 := Lib.hid (fun W (h : Ext w19 W) => HP.out.ext (g11.trans h))
  have HTR2 := Lib.hid (fun W (h : Ext w19 W) => HTR.out.ext (g13.trans h))
  have HL2 := Lib.hid (fun W (h : Ext w19 W) => HL.out.ext (g15.trans h))
  have HF2 := Lib.hid (fun W (h : Ext w19 W) => HF.out.ext (g17.trans h))
  have hbm := (g8a.block (Array.getElem?_eq_some_iff.1 HM.out).1).trans HM.out
  have HBM := Lib.hid (fun W (h : Ext w19 W) => (box2 ((h.block (Array.getElem?_eq_some_iff.1 hbm).1).trans hbm) (.int .i64 0)).1)
  have E19 := Lib.hid e19
  clear HK HW HD HP HTR HL HF HM HR9 HC12 HC14 HK16 HR18 HT hbm e18 e19 hx1 hx2 hx3 hx4 hx5 hx6 hx7 hx8 hx9 hx10 hx11 hx12 hx13 hx14 hx15 hx16 hx17 hx18 hx19 g17 g16 g15 g14 g13 g12 g11 g10 g9 g8a g8 g6 g2
  generalize w8.heap.size = mb at *
  go_wp2_with fail
  have hsg := span_guard
  have hsn := span_neq
  have hX : Ext w19 w19 := Ext.refl _
  have tok1 : True := trivial
  have tok2 : True := trivial
  go_region_held3 (fun w' => w'.cell? ⟨mb, 0, none⟩ = some (.int .i64 45) ∧ w'.cell? ⟨mb, 1, none⟩ = some (.int .i64 46)) (first | exact HBM.out _ (by repeat (first | assumption | exact Ext.refl _ | apply Ext.drew | apply Ext.alloc)))
    (first
      | (go_at_call 94; refine (lspan_any _ _ _).mono ?_; rintro e wz ⟨rfl, hz⟩; have hY : Ext w19 wz := Ext.trans (by repeat (first | assumption | exact Ext.refl _ | apply Ext.drew | apply Ext.alloc)) hz; clear hz)
      | (go_at_call 29; have _t := tok1; refine (sameSpans_yes _ _ [(54, 56), (44, 46)] _ (HK2.out _ (by repeat (first | assumption | exact Ext.refl _ | apply Ext.drew | apply Ext.alloc))) (spans_new _ _ 2 _ two_le rfl rfl)).mono ?_; rintro e wz ⟨rfl, hz⟩; have hY : Ext w19 wz := Ext.trans (by repeat (first | assumption | exact Ext.refl _ | apply Ext.drew | apply Ext.alloc)) hz; clear hz tok1 _t)
      | (go_at_call 29; refine (sameSpans_yes _ _ [(0, 10), (0, 10)] _ (HD2.out _ (by repeat (first | assumption | exact Ext.refl _ | apply Ext.drew | apply Ext.alloc))) (spans_new _ _ 2 _ two_le rfl rfl)).mono ?_; rintro e wz ⟨rfl, hz⟩; have hY : Ext w19 wz := Ext.trans (by repeat (first | assumption | exact Ext.refl _ | apply Ext.drew | apply Ext.alloc)) hz; clear hz)
      | (go_at_call 34; have _t := tok2; refine (same_yes _ _ [0] _ (HW2.out _ (by repeat (first | assumption | exact Ext.refl _ | apply Ext.drew | apply Ext.alloc))) (kints_new _ _ 1 _ one_le_maxLen rfl rfl)).mono ?_; rintro e wz ⟨rfl, hz⟩; have hY : Ext w19 wz := Ext.trans (by repeat (first | assumption | exact Ext.refl _ | apply Ext.drew | apply Ext.alloc)) hz; clear hz tok2 _t)
      | (go_at_call 34; refine (same_yes _ _ [10, 0, 10] _ (HP2.out _ (by repeat (first | assumption | exact Ext.refl _ | apply Ext.drew | apply Ext.alloc))) (kints_new _ _ 3 _ three_le rfl rfl)).mono ?_; rintro e wz ⟨rfl, hz⟩; have hY : Ext w19 wz := Ext.trans (by repeat (first | assumption | exact Ext.refl _ | apply Ext.drew | apply Ext.alloc)) hz; clear hz))
  have tok3 : True := trivial
  go_wp2_with (first
      | (go_at_call 34; have _t := tok3; refine (same_yes _ _ [1, 2] _ (HTR2.out _ (by repeat (first | assumption | exact Ext.refl _ | apply Ext.drew | apply Ext.alloc))) (kints_new _ _ 2 _ two_le rfl rfl)).mono ?_; rintro e wz ⟨rfl, hz⟩; have hY : Ext w19 wz := Ext.trans (by repeat (first | assumption | exact Ext.refl _ | apply Ext.drew | apply Ext.alloc)) hz; clear hz tok3 _t)
      | (go_at_call 58; refine (samePlan_yes _ _ [[1], [2, 3]] _ (HL2.out _ (by repeat (first | assumption | exact Ext.refl _ | apply Ext.drew | apply Ext.alloc))) (rows_new _)).mono ?_; rintro e wz ⟨rfl, hz⟩; have hY : Ext w19 wz := Ext.trans (by repeat (first | assumption | exact Ext.refl _ | apply Ext.drew | apply Ext.alloc)) hz; clear hz)
      | (go_at_call 34; refine (same_yes _ _ [2, 0, 1] _ (HF2.out _ (by repeat (first | assumption | exact Ext.refl _ | apply Ext.drew | apply Ext.alloc))) (kints_new _ _ 3 _ three_le rfl rfl)).mono ?_; rintro e wz ⟨rfl, hz⟩; have hY : Ext w19 wz := Ext.trans (by repeat (first | assumption | exact Ext.refl _ | apply Ext.drew | apply Ext.alloc)) hz; clear hz))
  go_ret
  exact ⟨rfl, E19.out.trans hY⟩
end Go.Proofs.YtjbeiclfggjbmaaGreatDoor
