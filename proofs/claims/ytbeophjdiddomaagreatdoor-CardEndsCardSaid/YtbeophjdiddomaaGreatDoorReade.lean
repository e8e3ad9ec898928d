/- card.read: giving up at the first two lines. -/
import Derived.Test.YtbeophjdiddomaaGreatDoorReadp
import Derived.Test.YtbeophjdiddomaaGreatDoorHouses
import Derived.Test.YtbeophjdiddomaaGreatDoorReadc
import Derived.Deep.MidRow
namespace Go.Proofs.YtbeophjdiddomaaGreatDoor
open Go.RowKit

set_option maxRecDepth 100000 in
set_option maxHeartbeats 64000000 in
theorem read_e0 (s : List UInt8) (w : World) (ht : TabOk w) (hm : MaxOk w) (hs : s.length ≤ 500) (q0 : toldOk wRound 2 (lineAt s 0) = false) : Calls Tryz.prog 52 #[strV s] w (ReadPost s w) := by
  have HSP := Lib.hid (fun w1 (hx : Ext w w1) => split_any s 10 w1 (hm.ext hx) (by omega))
  have HTO := Lib.hid (fun i kind word M w1 (hx : Ext w w1) (hM : 2 ≤ M ∧ M ≤ 6) (hn : NameAt kind word) (h : toldOk word M (lineAt s i) = true) => told_ok (lineAt s i) kind word M w1 (ht.ext hx) (hm.ext hx) (by have := lineAt_short s i; omega) hM hn h)
  have HTN := Lib.hid (fun i kind word M w1 (hx : Ext w w1) (hM : 2 ≤ M ∧ M ≤ 6) (hn : NameAt kind word) (h : toldOk word M (lineAt s i) = false) => told_no (lineAt s i) kind word M w1 (ht.ext hx) (hm.ext hx) (by have := lineAt_short s i; omega) hM hn h)
  have HTX := Lib.hid (fun v r w1 (hx : Ext w w1) (hr : RoundAt w1 v r) (hB : TextB r) => text_any v r w1 hr hB (ht.ext hx))
  have HN0 := Lib.hid (show NameAt 0 wRound from nm_at0)
  have HN1 := Lib.hid (show NameAt 1 wWeigh from nm_at1)
  have HN2 := Lib.hid (show NameAt 2 wHouse from nm_at2)
  have HN3 := Lib.hid (show NameAt 3 wAll from nm_at3)
  have HSU := Lib.hid sure_yes
  have HSN := Lib.hid sure_no
  have hx0 : Ext w (w.alloc (.cells #[.int .i64 0, .int .i64 0, .int .i64 0, .int .i64 0, .int .i64 0, .slice none 0 0, .int .i64 0, .int .i64 0] 26)) := (Ext.refl w).alloc _
  have HX0 := Lib.hid hx0
  have hmix : Tryz.prog.follows .mixedOrders = true := by kernel_rfl
  have hc := split_count 10 s
  have hne := splitL_ne 10 s
  have hL1 : 1 ≤ (splitL 10 s).length := List.length_pos_iff.2 hne
  obtain ⟨L, hL⟩ : ∃ L, (splitL 10 s).length = L := ⟨_, rfl⟩
  rw [hL] at HSP hL1 hc
  have HL := Lib.hid hL
  have b0 : (0 : Int) < (L : Int) := by omega
  have b0n : 0 < L := by omega
  clear hx0 ht hm hne hL
  have HF : Hid (∀ e w', StrangeP w e w' → ReadPost s w e w') := fun e w' h => .inr ⟨(fun ⟨r, hr⟩ => by rw [(text_head hr).1] at q0; cases q0), h⟩
  have HT0 := Lib.hid (fun w1 hx => HTN.out 0 0 wRound 2 w1 hx ⟨by omega, by omega⟩ HN0.out q0)
  clear q0
  go_enter Tryz.func52, Tryz.ntmps52
  go_wp2_with (first
    | (go_at_call 88; refine (HSP.out _ HX0.out).mono ?_; rintro e w1 ⟨b, rfl, hx1, hst⟩; have z0 := strs_cell hst (lineAt_get (s := s) (i := 0) (by rw [HL.out]; omega)); have hy1 := HX0.out.trans hx1; clear hst)
    | (go_at_call 89; refine (HT0.out _ hy1).mono ?_; rintro e w2 ⟨why, rfl, hx2⟩))
  exact ⟨rfl, HF.out _ _ ⟨why, rfl, hy1.trans hx2⟩⟩
set_option maxRecDepth 100000 in
set_option maxHeartbeats 64000000 in
theorem read_e1 (s : List UInt8) (w : World) (ht : TabOk w) (hm : MaxOk w) (hs : s.length ≤ 500) (q0 : toldOk wRound 2 (lineAt s 0) = true) (qL0 : (splitL 10 s).length ≠ manyOf s + 5) : Calls Tryz.prog 52 #[strV s] w (ReadPost s w) := by
  have HQZ := Lib.hid qL0
  clear qL0
  have HSP := Lib.hid (fun w1 (hx : Ext w w1) => split_any s 10 w1 (hm.ext hx) (by omega))
  have HTO := Lib.hid (fun i kind word M w1 (hx : Ext w w1) (hM : 2 ≤ M ∧ M ≤ 6) (hn : NameAt kind word) (h : toldOk word M (lineAt s i) = true) => told_ok (lineAt s i) kind word M w1 (ht.ext hx) (hm.ext hx) (by have := lineAt_short s i; omega) hM hn h)
  have HTN := Lib.hid (fun i kind word M w1 (hx : Ext w w1) (hM : 2 ≤ M ∧ M ≤ 6) (hn : NameAt kind word) (h : toldOk word M (lineAt s i) = false) => told_no (lineAt s i) kind word M w1 (ht.ext hx) (hm.ext hx) (by have := lineAt_short s i; omega) hM hn h)
  have HTX := Lib.hid (fun v r w1 (hx : Ext w w1) (hr : RoundAt w1 v r) (hB : TextB r) => text_any v r w1 hr hB (ht.ext hx))
  have HN0 := Lib.hid (show NameAt 0 wRound from nm_at0)
  have HN1 := Lib.hid (show NameAt 1 wWeigh from nm_at1)
  have HN2 := Lib.hid (show NameAt 2 wHouse from nm_at2)
  have HN3 := Lib.hid (show NameAt 3 wAll from nm_at3)
  have HSU := Lib.hid sure_yes
  have HSN := Lib.hid sure_no
  have hx0 : Ext w (w.alloc (.cells #[.int .i64 0, .int .i64 0, .int .i64 0, .int .i64 0, .int .i64 0, .slice none 0 0, .int .i64 0, .int .i64 0] 26)) := (Ext.refl w).alloc _
  have HX0 := Lib.hid hx0
  have hmix : Tryz.prog.follows .mixedOrders = true := by kernel_rfl
  have hc := split_count 10 s
  have hne := splitL_ne 10 s
  have hL1 : 1 ≤ (splitL 10 s).length := List.length_pos_iff.2 hne
  obtain ⟨L, hL⟩ : ∃ L, (splitL 10 s).length = L := ⟨_, rfl⟩
  rw [hL] at HSP hL1 hc
  have HL := Lib.hid hL
  have b0 : (0 : Int) < (L : Int) := by omega
  have b0n : 0 < L := by omega
  clear hx0 ht hm hne hL
  obtain ⟨hl0, hs0, -⟩ := told_line q0
  obtain ⟨p, n, hpn⟩ := two_of hl0
  rw [hpn] at hs0
  have hn01 := hs0 n (by simp)
  obtain ⟨nn, rfl⟩ : ∃ nn : Nat, n = (nn : Int) := ⟨n.toNat, by omega⟩
  have HPN := Lib.hid hpn
  have HMO : Hid (manyOf s = nn) := by unfold Hid manyOf; rw [hpn]; simp
  have HT0 := Lib.hid (fun w1 hx => HTO.out 0 0 wRound 2 w1 hx ⟨by omega, by omega⟩ HN0.out q0)
  have E1 : IntKind.i64.wrap ((nn : Int) + 5) = (nn : Int) + 5 := IntWalk.i64_in _ (by omega)
  have HQ0 := Lib.hid q0
  clear hl0 hs0 hpn q0
  have qL : ¬ L = nn + 5 := fun e => HQZ.out (by rw [HL.out, HMO.out]; exact e)
  clear HQZ
  have HF : Hid (∀ e w', StrangeP w e w' → ReadPost s w e w') := fun e w' h => .inr ⟨(fun ⟨r, hr⟩ => qL (by rw [← HL.out, text_len hr, ← many_text hr, HMO.out])), h⟩
  have t1 : ((L : Int) == (nn : Int) + 5) = false := by rw [beq_eq_false_iff_ne]; omega
  clear qL
  go_enter Tryz.func52, Tryz.ntmps52
  go_wp2_with (first
  | (go_at_call 88; refine (HSP.out _ HX0.out).mono ?_; rintro e w1 ⟨b, rfl, hx1, hst⟩; have z0 := strs_cell hst (lineAt_get (s := s) (i := 0) (by rw [HL.out]; omega)); have hy1 := HX0.out.trans hx1; have HST := Lib.hid hst; clear hst)
  | (go_at_call 89; refine (HT0.out _ hy1).mono ?_; rintro e w2 ⟨v1, rfl, hx2, hv1⟩; rw [HPN.out] at hv1; obtain ⟨vb, vo, vc, hve, hvc⟩ := ints_at (IntsAt.of_owns hv1) (by simp); subst hve; have a0 := hvc 0 p rfl; rw [Nat.add_zero] at a0; have a1 := hvc 1 nn rfl; have hy2 := hy1.trans hx2; have HVC := Lib.hid hvc; clear HT0 hv1 hvc)
  | (go_at_call 90; refine (HSN.out _ _).mono ?_; rintro e w3 ⟨why, rfl, hx3⟩))
  exact ⟨rfl, HF.out _ _ ⟨why, rfl, hy2.trans hx3⟩⟩
set_option maxRecDepth 100000 in
set_option maxHeartbeats 64000000 in
theorem read_e2 (s : List UInt8) (w : World) (ht : TabOk w) (hm : MaxOk w) (hs : s.length ≤ 500) (q0 : toldOk wRound 2 (lineAt s 0) = true) (qL0 : (splitL 10 s).length = manyOf s + 5) (q1 : toldOk wWeigh 4 (lineAt s 1) = false) : Calls Tryz.prog 52 #[strV s] w (ReadPost s w) := by
  have HQZ := Lib.hid qL0
  clear qL0
  have HQY := Lib.hid q1
  clear q1
  have HSP := Lib.hid (fun w1 (hx : Ext w w1) => split_any s 10 w1 (hm.ext hx) (by omega))
  have HTO := Lib.hid (fun i kind word M w1 (hx : Ext w w1) (hM : 2 ≤ M ∧ M ≤ 6) (hn : NameAt kind word) (h : toldOk word M (lineAt s i) = true) => told_ok (lineAt s i) kind word M w1 (ht.ext hx) (hm.ext hx) (by have := lineAt_short s i; omega) hM hn h)
  have HTN := Lib.hid (fun i kind word M w1 (hx : Ext w w1) (hM : 2 ≤ M ∧ M ≤ 6) (hn : NameAt kind word) (h : toldOk word M (lineAt s i) = false) => told_no (lineAt s i) kind word M w1 (ht.ext hx) (hm.ext hx) (by have := lineAt_short s i; omega) hM hn h)
  have HTX := Lib.hid (fun v r w1 (hx : Ext w w1) (hr : RoundAt w1 v r) (hB : TextB r) => text_any v r w1 hr hB (ht.ext hx))
  have HN0 := Lib.hid (show NameAt 0 wRound from nm_at0)
  have HN1 := Lib.hid (show NameAt 1 wWeigh from nm_at1)
  have HN2 := Lib.hid (show NameAt 2 wHouse from nm_at2)
  have HN3 := Lib.hid (show NameAt 3 wAll from nm_at3)
  have HSU := Lib.hid sure_yes
  have HSN := Lib.hid sure_no
  have hx0 : Ext w (w.alloc (.cells #[.int .i64 0, .int .i64 0, .int .i64 0, .int .i64 0, .int .i64 0, .slice none 0 0, .int .i64 0, .int .i64 0] 26)) := (Ext.refl w).alloc _
  have HX0 := Lib.hid hx0
  have hmix : Tryz.prog.follows .mixedOrders = true := by kernel_rfl
  have hc := split_count 10 s
  have hne := splitL_ne 10 s
  have hL1 : 1 ≤ (splitL 10 s).length := List.length_pos_iff.2 hne
  obtain ⟨L, hL⟩ : ∃ L, (splitL 10 s).length = L := ⟨_, rfl⟩
  rw [hL] at HSP hL1 hc
  have HL := Lib.hid hL
  have b0 : (0 : Int) < (L : Int) := by omega
  have b0n : 0 < L := by omega
  clear hx0 ht hm hne hL
  obtain ⟨hl0, hs0, -⟩ := told_line q0
  obtain ⟨p, n, hpn⟩ := two_of hl0
  rw [hpn] at hs0
  have hn01 := hs0 n (by simp)
  obtain ⟨nn, rfl⟩ : ∃ nn : Nat, n = (nn : Int) := ⟨n.toNat, by omega⟩
  have HPN := Lib.hid hpn
  have HMO : Hid (manyOf s = nn) := by unfold Hid manyOf; rw [hpn]; simp
  have HT0 := Lib.hid (fun w1 hx => HTO.out 0 0 wRound 2 w1 hx ⟨by omega, by omega⟩ HN0.out q0)
  have E1 : IntKind.i64.wrap ((nn : Int) + 5) = (nn : Int) + 5 := IntWalk.i64_in _ (by omega)
  have HQ0 := Lib.hid q0
  clear hl0 hs0 hpn q0
  have qL : L = nn + 5 := by have h := HQZ.out; rw [HL.out, HMO.out] at h; exact h
  clear HQZ
  have t1 : ((L : Int) == (nn : Int) + 5) = true := by rw [beq_iff_eq]; omega
  have hnn : nn ≤ 496 := by omega
  have b1 : (1 : Int) < (L : Int) := by omega
  have b1n : 1 < L := by omega
  have q1 := HQY.out
  clear HQY
  have HF : Hid (∀ e w', StrangeP w e w' → ReadPost s w e w') := fun e w' h => .inr ⟨(fun ⟨r, hr⟩ => by rw [(text_scales hr).1] at q1; cases q1), h⟩
  have HT1 := Lib.hid (fun w1 hx => HTN.out 1 1 wWeigh 4 w1 hx ⟨by omega, by omega⟩ HN1.out q1)
  clear q1 qL
  go_enter Tryz.func52, Tryz.ntmps52
  go_wp2_with (first
  | (go_at_call 88; refine (HSP.out _ HX0.out).mono ?_; rintro e w1 ⟨b, rfl, hx1, hst⟩; have z0 := strs_cell hst (lineAt_get (s := s) (i := 0) (by rw [HL.out]; omega)); have hy1 := HX0.out.trans hx1; have HST := Lib.hid hst; clear hst)
  | (go_at_call 89; refine (HT0.out _ hy1).mono ?_; rintro e w2 ⟨v1, rfl, hx2, hv1⟩; rw [HPN.out] at hv1; obtain ⟨vb, vo, vc, hve, hvc⟩ := ints_at (IntsAt.of_owns hv1) (by simp); subst hve; have a0 := hvc 0 p rfl; rw [Nat.add_zero] at a0; have a1 := hvc 1 nn rfl; have hy2 := hy1.trans hx2; have HVC := Lib.hid hvc; clear HT0 hv1 hvc)
  | (go_at_call 90; refine (HSU.out _ _).mono ?_; rintro e w3 ⟨rfl, rfl⟩; have z1 := hx2.cell (strs_cell HST.out (lineAt_get (s := s) (i := 1) (by rw [HL.out]; omega))))
  | (go_at_call 89; refine (HT1.out _ hy2).mono ?_; rintro e w4 ⟨why, rfl, hx4⟩))
  exact ⟨rfl, HF.out _ _ ⟨why, rfl, hy2.trans hx4⟩⟩
end Go.Proofs.YtbeophjdiddomaaGreatDoor
