/- The reference's True, of all letters. -/
import Derived.Test.YtokananogogjaaaGreatDoorOlet
namespace Go.Proofs.YtokananogogjaaaGreatDoor
open Go.RowKit
set_option maxRecDepth 100000 in
set_option maxHeartbeats 8000000 in
theorem rtrue_any (v xv lv : Value) (b : Book) (x : Buyer) (l : List Int) (w : World) (hb : BookAt w v b) (hx : BuyerAt w xv x) (hm : IntsAt w lv l) (hbu : isBuyerB b x = true) (hl : l ∈ permsB b) :
 Calls Tryz.prog 17 #[v, xv, lv, .slice none 0 0] w fun e w' => e = .returned (.bool (trueB b x l)) ∧ Ext w w' := by
 have hb0 := hb
 obtain ⟨ga, gc, ea, ec, rfl, hgl, hel⟩ := hb.open
 obtain ⟨_, _, hv, hg, _⟩ := hb0
 cases hv
 obtain ⟨la, lc, rfl, hl1, hl2, hlr⟩ := hx.open
 obtain ⟨ma, mc, rfl, m1, m2, m3⟩ := hm.open
 obtain ⟨ga', gc', hve, g1, g2, g3⟩ := hg.open
 cases hve
 have HPP := Lib.hid (perms_mem.1 hl)
 have HGL := Lib.hid (fun y hy => good_letter hbu (y := y) hy)
 have hbl := buyer_len hbu
 obtain ⟨W, HW⟩ : ∃ W, Hid (W = (w.alloc (bookBox (.slice ga b.goods.length gc) b (.slice ea b.entries.length ec))).alloc (.cells #[.int .i64 x.editions, .slice la x.letters.length lc] 28)) := ⟨_, rfl⟩
 have HX0 := Lib.hid (show Ext w W by rw [HW.out]; exact ((Ext.refl w).alloc _).alloc _)
 have HF := Lib.hid (fun W1 (h : Ext W W1) => (And.intro (h.cell (show W.cell? ⟨w.heap.size + 1, 1, none⟩ = some (.slice la x.letters.length lc) by rw [HW.out]; go_simp)) (h.cell (show W.cell? ⟨w.heap.size, 0, none⟩ = some (.slice ga b.goods.length gc) by rw [HW.out]; go_simp))))
 obtain ⟨_, _, hve, _, _, l3⟩ := RowOf.open4 (f := letC) (fun _ => rfl) hlr
 cases hve
 have HL3 := Lib.hid l3
 have HM3 := Lib.hid m3
 have HG3 := Lib.hid g3
 clear hb hx hm hg hlr l3 m3 g3 hl hgl hel
 go_enter Tryz.func17, Tryz.ntmps17
 go_upto_region 1 with fail
 rw [← HW.out]
 go_wp2
 go_loopw [9] (fun i wr => ∃ k : Nat, k ≤ x.letters.length ∧ i = .int .i64 (k : Int) ∧ Hid ((x.letters.take k).any (offB b l) = false) ∧ Ext W wr) (fun i _ => x.letters.length - (intOf i).toNat)
 case atStart => exact ⟨0, Nat.zero_le _, rfl, by simp [Hid], Ext.refl _⟩
 case round =>
  obtain ⟨k, hk, rfl, ha, hx⟩ := hrel
  obtain ⟨c5, b0⟩ := HF.out _ hx
  by_cases hlt : k < x.letters.length
  ·have x1 : decide ((k : Int) < (x.letters.length : Int)) = true := by simpa using hlt
   go_wp2
   obtain ⟨wz, rfl⟩ : ∃ wz : World, wz = wr := ⟨_, rfl⟩
   go_loopw [10, 11] (fun ov j w1 => ov = .bool false ∧ j = .int .i64 0 ∧ w1 = wz) (fun _ _ _ => 0)
   case atStart => exact ⟨rfl, rfl, rfl⟩
   case round =>
    obtain ⟨rfl, rfl, hwz⟩ := hrel
    subst hwz
    obtain ⟨wk, rfl⟩ : ∃ wk : World, wk = wr := ⟨_, rfl⟩
    have HX := Lib.hid hx
    obtain ⟨lb, lo, y, rfl, hyk, d0, d1, d2, d3⟩ := HL3.out k hlt
    have hgl := HGL.out y (List.mem_of_getElem? hyk.out)
    obtain ⟨N, hN⟩ : ∃ N : Nat, y.1 = N := ⟨y.1.toNat, by omega⟩
    have hNl : N < l.length := by have := HPP.out.1; omega
    obtain ⟨mb, mp, mx, rfl, hmx, mc4⟩ := HM3.out N hNl
    have hmr := HPP.out.2.2 mx (List.mem_of_getElem? hmx.out)
    obtain ⟨g, rfl⟩ : ∃ g : Nat, mx = g := ⟨mx.toNat, by omega⟩
    obtain ⟨gb, gp, gx, rfl, hgx, gc4⟩ := HG3.out g (by omega)
    have hoff : offB b l y = !(inB gx y.2.1 y.2.2.1) := by
     unfold offB
     rw [hN, Int.toNat_natCast, show l.getD N 0 = (g : Int) by rw [List.getD_eq_getElem?_getD, hmx.out]; rfl, Int.toNat_natCast, show b.goods.getD g 0 = gx by rw [List.getD_eq_getElem?_getD, hgx.out]; rfl]
    rw [hN] at d0
    have h0 := HX0.out.trans hx
    have k0 := h0.cell d0
    have k1 := h0.cell d1
    have k2 := h0.cell d2
    have k3 := h0.cell d3
    have k4 := h0.cell mc4
    have k5 := h0.cell gc4
    have i1 : (0 : Int) ≤ (k : Int) := by omega
    have i2 : (k : Int) < (x.letters.length : Int) := by omega
    have n1 : (0 : Int) ≤ (N : Int) := by omega
    have n2 : (N : Int) < (l.length : Int) := by omega
    have s1 : (0 : Int) ≤ (g : Int) := by omega
    have s2 : (g : Int) < (b.goods.length : Int) := by omega
    obtain ⟨WP, hWP⟩ : ∃ WP, WP = wk.alloc (.cells #[.int .i64 (N : Int), .int .i64 y.2.1, .int .i64 y.2.2.1, .int .i64 y.2.2.2] 53) := ⟨_, rfl⟩
    have hxp : Ext wk WP := by rw [hWP]; exact (Ext.refl wk).alloc _
    have p0 : WP.cell? ⟨wk.heap.size, 0, none⟩ = some (.int .i64 (N : Int)) := by rw [hWP]; go_simp
    have p1 : WP.cell? ⟨wk.heap.size, 1, none⟩ = some (.int .i64 y.2.1) := by rw [hWP]; go_simp
    have p2 : WP.cell? ⟨wk.heap.size, 2, none⟩ = some (.int .i64 y.2.2.1) := by rw [hWP]; go_simp
    have k4' := hxp.cell k4
    have k5' := hxp.cell k5
    have HFZ := Lib.hid (fun W' (h : Ext WP W') => (⟨h.cell p0, h.cell p1, h.cell p2, (HF.out W' (hx.trans (hxp.trans h))).2, h.cell k4', h.cell k5'⟩ : _ ∧ _ ∧ _ ∧ _ ∧ _ ∧ _))
    have HIN := Lib.hid (fun W' => rin_any gx y.2.1 y.2.2.1 W')
    have HXP := Lib.hid hxp
    have HAT := Lib.hid hyk.out
    have HOF := Lib.hid hoff
    clear hxp h0 hyk hmx hgx hoff hgl d0 d1 d2 d3 mc4 gc4 p0 p1 p2 k4 k5 k4' k5' hmr hN
    cases hb : inB gx y.2.1 y.2.2.1 with
    | true =>
     rw [hb] at HIN
     have HN : Hid ((x.letters.take (k + 1)).any (offB b l) = false) := any_take HAT.out ha.out (by rw [HOF.out, hb]; rfl)
     clear hb ha HOF HAT hx
     go_upto_region 10 with fail
     rw [← hWP]
     clear hWP k0 k1 k2 k3
     refine region_reads (C := fun W => Ext WP W) (by kernel_rfl) (by kernel_rfl) ((Ext.refl WP).drew) ?_
     repeat (first | go_big_quiet_skip | (go_big_quiet_want; go_big_quiet_op; first | go_big_quiet_on | (refine ⟨_, fun W hW => rfl, ?_⟩; go_big_quiet_on)) | (go_big_quiet_want; refine ⟨?_, fun W hW => ?_, ?_⟩; rotate_left; (· (obtain ⟨p0, p1, p2, b0, k4, k5⟩ := HFZ.out W hW; go_simp; (first | with_reducible rfl | (go_at_call 24; refine (HIN.out W).mono ?_; rintro e w' ⟨rfl, rfl⟩; constructor; with_reducible rfl; exact hW)))); (try simp only [Act.put, yA, yB, yC]); go_big_quiet_on))
     refine wpQuiet_nil ?_
     intro wq hq
     go_wp2
     exact ⟨⟨k + 1, by omega, by go_num, HN.out, HX.out.trans (HXP.out.trans hq)⟩, by simp [intOf]; omega⟩
    | false =>
     rw [hb] at HIN
     have HR : Hid (trueB b x l = false) := by unfold Hid trueB; rw [any_at HAT.out (by rw [HOF.out, hb]; rfl)]; rfl
     clear hb ha HOF HAT hx
     go_upto_region 10 with fail
     rw [← hWP]
     clear hWP k0 k1 k2 k3
     refine region_reads (C := fun W => Ext WP W) (by kernel_rfl) (by kernel_rfl) ((Ext.refl WP).drew) ?_
     repeat (first | go_big_quiet_skip | (go_big_quiet_want; go_big_quiet_op; first | go_big_quiet_on | (refine ⟨_, fun W hW => rfl, ?_⟩; go_big_quiet_on)) | (go_big_quiet_want; refine ⟨?_, fun W hW => ?_, ?_⟩; rotate_left; (· (obtain ⟨p0, p1, p2, b0, k4, k5⟩ := HFZ.out W hW; go_simp; (first | with_reducible rfl | (go_at_call 24; refine (HIN.out W).mono ?_; rintro e w' ⟨rfl, rfl⟩; constructor; with_reducible rfl; exact hW)))); (try simp only [Act.put, yA, yB, yC]); go_big_quiet_on))
     refine wpQuiet_nil ?_
     intro wq hq
     go_wp2
     go_ret
     exact ⟨by rw [HR.out] <;> rfl, HX0.out.trans (HX.out.trans (HXP.out.trans hq))⟩
  ·have x1 : decide ((k : Int) < (x.letters.length : Int)) = false := by simpa using hlt
   have HX := Lib.hid hx
   have x2 : decide (k < x.letters.length) = false := by simpa using hlt
   have HR : Hid (trueB b x l = true) := by
    unfold Hid trueB
    have h := ha.out
    rw [List.take_of_length_le (by omega)] at h
    rw [h]; rfl
   clear hlt ha
   go_wp2
   go_ret
   exact ⟨by rw [HR.out] <;> rfl, HX0.out.trans HX.out⟩
end Go.Proofs.YtokananogogjaaaGreatDoor
