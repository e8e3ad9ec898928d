/- The reference's Buyer. -/
import Derived.Test.YtokananogogjaaaGreatDoorOlt
import Derived.Test.YtokananogogjaaaGreatDoorOrg
import Derived.Test.YtokananogogjaaaGreatDoorOrh
namespace Go.Proofs.YtokananogogjaaaGreatDoor
open Go.RowKit
set_option maxRecDepth 100000 in
set_option maxHeartbeats 8000000 in
theorem rbuyer_any (v xv : Value) (b : Book) (x : Buyer) (w : World) (hB : BookB b) (hb : BookAt w v b) (hx : BuyerAt w xv x) :
 Calls Tryz.prog 8 #[v, xv] w fun e w' => e = .returned (.bool (isBuyerB b x)) ∧ Ext w w' := by
 obtain ⟨ga, gc, ea, ec, rfl, hgl, hel⟩ := hb.open
 obtain ⟨la, lc, rfl, hl1, hl2, hlr⟩ := hx.open
 obtain ⟨W, HW⟩ : ∃ W, Hid (W = (w.alloc (bookBox (.slice ga b.goods.length gc) b (.slice ea b.entries.length ec))).alloc (.cells #[.int .i64 x.editions, .slice la x.letters.length lc] 28)) := ⟨_, rfl⟩
 have HX0 := Lib.hid (show Ext w W by rw [HW.out]; exact ((Ext.refl w).alloc _).alloc _)
 have HF := Lib.hid (fun W1 (h : Ext W W1) => (And.intro (h.cell (show W.cell? ⟨w.heap.size + 1, 0, none⟩ = some (.int .i64 x.editions) by rw [HW.out]; go_simp)) (And.intro (h.cell (show W.cell? ⟨w.heap.size + 1, 1, none⟩ = some (.slice la x.letters.length lc) by rw [HW.out]; go_simp)) (BoxAt.ext (show BoxAt W w.heap.size (.slice ga b.goods.length gc) b (.slice ea b.entries.length ec) by rw [HW.out]; exact (BoxAt.new _ _ _ _).ext ((Ext.refl _).alloc _)) h))))
 obtain ⟨_, _, hve, _, _, l3⟩ := RowOf.open4 (f := letC) (fun _ => rfl) hlr
 cases hve
 have HL3 := Lib.hid l3
 obtain ⟨n, hn⟩ : ∃ n : Nat, b.editions = n := ⟨b.editions.toNat, by have := hB.e1; omega⟩
 have hn3 : n ≤ 3 := by have := hB.e3; omega
 obtain ⟨p1, p2⟩ := pow_le_16 (k := n) (by omega)
 have HPW := Lib.hid (fun W1 => (by rw [hn]; exact rpower_any n W1 (by omega) : Calls Tryz.prog 26 #[.int .i64 b.editions] W1 fun e w' => e = .returned (.int .i64 (2 ^ n)) ∧ W1 = w'))
 have HBR : Hid (isBuyerB b x = (inB x.editions 1 (2 ^ n - 1) && inB x.letters.length 1 4 && !(x.letters.any (badLetter b)))) := by unfold Hid isBuyerB; rw [hn, Int.toNat_natCast]
 generalize (2 : Int) ^ n = p at *
 obtain ⟨q, hq⟩ : ∃ q : Int, p - 1 = q := ⟨_, rfl⟩
 have j1 : IntKind.i64.wrap (p - 1) = q := by rw [IntWalk.i64_in _ (by omega), hq]
 rw [hq] at HBR
 have HIN := Lib.hid (fun (a lo hi : Int) (r : Bool) (h : inB a lo hi = r) W1 => (by rw [← h]; exact rin_any a lo hi W1 : Calls Tryz.prog 24 #[.int .i64 a, .int .i64 lo, .int .i64 hi] W1 fun e w' => e = .returned (.bool r) ∧ W1 = w'))
 have HI3 := Lib.hid (fun (y : Int) W1 => rin_any y 0 1000 W1)
 have HGO := Lib.hid (fun (y : Int) W1 => rgood_any ga ea gc b.entries.length ec b y W1 hgl)
 clear hb hx hlr l3 hB hgl hel hn hn3 p1 p2 hq
 cases i1 : inB x.editions 1 q with
 | false =>
  have HR : Hid (isBuyerB b x = false) := by unfold Hid; rw [HBR.out, i1]; rfl
  go_enter Tryz.func8, Tryz.ntmps8
  go_upto_region 1 with fail
  rw [← HW.out]
  refine region_reads (C := fun W1 => Ext W W1) (by kernel_rfl) (by kernel_rfl) ((Ext.refl W).drew) ?_
  repeat (first | go_big_quiet_skip | (go_big_quiet_want; go_big_quiet_op; first | go_big_quiet_on | (refine ⟨_, fun W hW => rfl, ?_⟩; go_big_quiet_on)) | (go_big_quiet_want; refine ⟨?_, fun W hW => ?_, ?_⟩; rotate_left; (· (obtain ⟨c4, c5, b0, b1, b2, b3⟩ := HF.out W hW; go_simp; (first | with_reducible rfl | (go_at_call 26; refine (HPW.out W).mono ?_; rintro e w' ⟨rfl, rfl⟩; constructor; with_reducible rfl; exact hW) | (go_at_call 24; refine (HIN.out _ _ _ _ (by first | with_reducible exact i1 | with_reducible exact i2) W).mono ?_; rintro e w' ⟨rfl, rfl⟩; constructor; with_reducible rfl; exact hW)))); (try simp only [Act.put, yA, yB, yC]); go_big_quiet_on))
  refine wpQuiet_nil ?_
  intro wq hq
  go_wp2
  go_ret
  exact ⟨by rw [HR.out] <;> rfl, HX0.out.trans hq⟩
 | true =>
  cases i2 : inB (x.letters.length : Int) 1 4 with
  | false =>
   have HR : Hid (isBuyerB b x = false) := by unfold Hid; rw [HBR.out, i1, i2]; rfl
   go_enter Tryz.func8, Tryz.ntmps8
   go_upto_region 1 with fail
   rw [← HW.out]
   refine region_reads (C := fun W1 => Ext W W1) (by kernel_rfl) (by kernel_rfl) ((Ext.refl W).drew) ?_
   repeat (first | go_big_quiet_skip | (go_big_quiet_want; go_big_quiet_op; first | go_big_quiet_on | (refine ⟨_, fun W hW => rfl, ?_⟩; go_big_quiet_on)) | (go_big_quiet_want; refine ⟨?_, fun W hW => ?_, ?_⟩; rotate_left; (· (obtain ⟨c4, c5, b0, b1, b2, b3⟩ := HF.out W hW; go_simp; (first | with_reducible rfl | (go_at_call 26; refine (HPW.out W).mono ?_; rintro e w' ⟨rfl, rfl⟩; constructor; with_reducible rfl; exact hW) | (go_at_call 24; refine (HIN.out _ _ _ _ (by first | with_reducible exact i1 | with_reducible exact i2) W).mono ?_; rintro e w' ⟨rfl, rfl⟩; constructor; with_reducible rfl; exact hW)))); (try simp only [Act.put, yA, yB, yC]); go_big_quiet_on))
   refine wpQuiet_nil ?_
   intro wq hq
   go_wp2
   go_ret
   exact ⟨by rw [HR.out] <;> rfl, HX0.out.trans hq⟩
  | true =>
   have HL := Lib.hid (inB_iff.1 i2)
   have HR : Hid (isBuyerB b x = !(x.letters.any (badLetter b))) := by unfold Hid; rw [HBR.out, i1, i2]; rfl
   go_enter Tryz.func8, Tryz.ntmps8
   go_upto_region 1 with fail
   rw [← HW.out]
   refine region_reads (C := fun W1 => Ext W W1) (by kernel_rfl) (by kernel_rfl) ((Ext.refl W).drew) ?_
   repeat (first | go_big_quiet_skip | (go_big_quiet_want; go_big_quiet_op; first | go_big_quiet_on | (refine ⟨_, fun W hW => rfl, ?_⟩; go_big_quiet_on)) | (go_big_quiet_want; refine ⟨?_, fun W hW => ?_, ?_⟩; rotate_left; (· (obtain ⟨c4, c5, b0, b1, b2, b3⟩ := HF.out W hW; go_simp; (first | with_reducible rfl | (go_at_call 26; refine (HPW.out W).mono ?_; rintro e w' ⟨rfl, rfl⟩; constructor; with_reducible rfl; exact hW) | (go_at_call 24; refine (HIN.out _ _ _ _ (by first | with_reducible exact i1 | with_reducible exact i2) W).mono ?_; rintro e w' ⟨rfl, rfl⟩; constructor; with_reducible rfl; exact hW)))); (try simp only [Act.put, yA, yB, yC]); go_big_quiet_on))
   refine wpQuiet_nil ?_
   intro wq hq
   go_wp2
   go_loopw [5] (fun i wr => ∃ k : Nat, k ≤ x.letters.length ∧ i = .int .i64 (k : Int) ∧ Hid ((x.letters.take k).any (badLetter b) = false) ∧ Ext W wr) (fun i _ => x.letters.length - (intOf i).toNat)
   case atStart => exact ⟨0, Nat.zero_le _, rfl, by simp [Hid], hq⟩
   case round =>
    obtain ⟨k, hk, rfl, ha, hx⟩ := hrel
    obtain ⟨wk, rfl⟩ : ∃ wk : World, wk = wr := ⟨_, rfl⟩
    obtain ⟨c4, c5, b0, b1, b2, b3⟩ := HF.out _ hx
    have HX := Lib.hid hx
    have hkl : x.letters.length ≤ 4 := by have := HL.out; omega
    by_cases hlt : k < x.letters.length
    ·have x1 : decide ((k : Int) < (x.letters.length : Int)) = true := by simpa using hlt
     have k1 : (0 : Int) ≤ (k : Int) := by omega
     have k2 : (k : Int) < (x.letters.length : Int) := by omega
     obtain ⟨lb, lo, y, rfl, hyk, d0, d1, d2, d3⟩ := HL3.out k hlt
     have h0 := HX0.out.trans hx
     have e0 := h0.cell d0
     have e1 := h0.cell d1
     have e2 := h0.cell d2
     have e3 := h0.cell d3
     obtain ⟨WP, hWP⟩ : ∃ WP, WP = wk.alloc (.cells #[.int .i64 y.1, .int .i64 y.2.1, .int .i64 y.2.2.1, .int .i64 y.2.2.2] 53) := ⟨_, rfl⟩
     have hxp : Ext wk WP := by rw [hWP]; exact (Ext.refl wk).alloc _
     have q0 : WP.cell? ⟨wk.heap.size, 0, none⟩ = some (.int .i64 y.1) := by rw [hWP]; go_simp
     have q1 : WP.cell? ⟨wk.heap.size, 1, none⟩ = some (.int .i64 y.2.1) := by rw [hWP]; go_simp
     have q2 : WP.cell? ⟨wk.heap.size, 2, none⟩ = some (.int .i64 y.2.2.1) := by rw [hWP]; go_simp
     have q3 : WP.cell? ⟨wk.heap.size, 3, none⟩ = some (.int .i64 y.2.2.2) := by rw [hWP]; go_simp
     have HFZ := Lib.hid (fun W' (h : Ext WP W') => (And.intro (h.cell q0) (And.intro (h.cell q1) (And.intro (h.cell q2) (And.intro (h.cell q3) (HF.out W' (hx.trans (hxp.trans h)))))) : _ ∧ _))
     have HG := Lib.hid (HGO.out y.1)
     have HM := Lib.hid (HI3.out y.2.2.2)
     have HXP := Lib.hid (hx.trans hxp)
     have HA : ∀ r, badLetter b y = r → Hid (badLetter b y = r) := fun r h => h
     have HAT := Lib.hid hyk.out
     clear q0 q1 q2 q3 hx h0 d0 d1 d2 d3 HGO HI3 HIN HPW hyk hxp HBR
     cases i3 : isNumberB b y.1 with
     | false =>
      rw [i3] at HG
      have HB : Hid (badLetter b y = true) := HA _ (by unfold badLetter; rw [i3]; rfl)
      have HRR : Hid (isBuyerB b x = false) := by unfold Hid; rw [HR.out, any_at HAT.out HB.out]; rfl
      clear HA HB ha i3
      go_upto_region 7 with fail
      rw [← hWP]
      clear hWP e0 e1 e2 e3 c4 c5 b0 b1 b2 b3
      have hq := Ext.refl WP
      obtain ⟨q0, q1, q2, q3, c4, c5, b0, b1, b2, b3⟩ := HFZ.out _ hq
      go_wp2_with (first | (go_at_call 25; refine (HG.out _).mono ?_; rintro e w1 ⟨rfl, hx1⟩; replace hq := hq.trans hx1; clear hx1 q0 q1 q2 q3 c4 c5 b0 b1 b2 b3; obtain ⟨q0, q1, q2, q3, c4, c5, b0, b1, b2, b3⟩ := HFZ.out _ hq) | (go_at_call 24; refine (HM.out _).mono ?_; rintro e w1 ⟨rfl, rfl⟩))
      go_ret
      exact ⟨by rw [HRR.out] <;> rfl, HX0.out.trans (HXP.out.trans hq)⟩
     | true =>
      rw [i3] at HG
      cases i4 : decide (y.2.1 < 1) with
      | true =>
       have HB : Hid (badLetter b y = true) := HA _ (by unfold badLetter; rw [i3, i4]; rfl)
       have HRR : Hid (isBuyerB b x = false) := by unfold Hid; rw [HR.out, any_at HAT.out HB.out]; rfl
       clear HA HB ha i3
       go_upto_region 7 with fail
       rw [← hWP]
       clear hWP e0 e1 e2 e3 c4 c5 b0 b1 b2 b3
       have hq := Ext.refl WP
       obtain ⟨q0, q1, q2, q3, c4, c5, b0, b1, b2, b3⟩ := HFZ.out _ hq
       go_wp2_with (first | (go_at_call 25; refine (HG.out _).mono ?_; rintro e w1 ⟨rfl, hx1⟩; replace hq := hq.trans hx1; clear hx1 q0 q1 q2 q3 c4 c5 b0 b1 b2 b3; obtain ⟨q0, q1, q2, q3, c4, c5, b0, b1, b2, b3⟩ := HFZ.out _ hq) | (go_at_call 24; refine (HM.out _).mono ?_; rintro e w1 ⟨rfl, rfl⟩))
       go_ret
       exact ⟨by rw [HRR.out] <;> rfl, HX0.out.trans (HXP.out.trans hq)⟩
      | false =>
       cases i5 : decide (y.2.2.1 < y.2.1) with
       | true =>
        have HB : Hid (badLetter b y = true) := HA _ (by unfold badLetter; rw [i3, i4, i5]; rfl)
        have HRR : Hid (isBuyerB b x = false) := by unfold Hid; rw [HR.out, any_at HAT.out HB.out]; rfl
        clear HA HB ha i3
        go_upto_region 7 with fail
        rw [← hWP]
        clear hWP e0 e1 e2 e3 c4 c5 b0 b1 b2 b3
        have hq := Ext.refl WP
        obtain ⟨q0, q1, q2, q3, c4, c5, b0, b1, b2, b3⟩ := HFZ.out _ hq
        go_wp2_with (first | (go_at_call 25; refine (HG.out _).mono ?_; rintro e w1 ⟨rfl, hx1⟩; replace hq := hq.trans hx1; clear hx1 q0 q1 q2 q3 c4 c5 b0 b1 b2 b3; obtain ⟨q0, q1, q2, q3, c4, c5, b0, b1, b2, b3⟩ := HFZ.out _ hq) | (go_at_call 24; refine (HM.out _).mono ?_; rintro e w1 ⟨rfl, rfl⟩))
        go_ret
        exact ⟨by rw [HRR.out] <;> rfl, HX0.out.trans (HXP.out.trans hq)⟩
       | false =>
        cases i6 : decide (99 < y.2.2.1) with
        | true =>
         have HB : Hid (badLetter b y = true) := HA _ (by unfold badLetter; rw [i3, i4, i5, i6]; rfl)
         have HRR : Hid (isBuyerB b x = false) := by unfold Hid; rw [HR.out, any_at HAT.out HB.out]; rfl
         clear HA HB ha i3
         go_upto_region 7 with fail
         rw [← hWP]
         clear hWP e0 e1 e2 e3 c4 c5 b0 b1 b2 b3
         have hq := Ext.refl WP
         obtain ⟨q0, q1, q2, q3, c4, c5, b0, b1, b2, b3⟩ := HFZ.out _ hq
         go_wp2_with (first | (go_at_call 25; refine (HG.out _).mono ?_; rintro e w1 ⟨rfl, hx1⟩; replace hq := hq.trans hx1; clear hx1 q0 q1 q2 q3 c4 c5 b0 b1 b2 b3; obtain ⟨q0, q1, q2, q3, c4, c5, b0, b1, b2, b3⟩ := HFZ.out _ hq) | (go_at_call 24; refine (HM.out _).mono ?_; rintro e w1 ⟨rfl, rfl⟩))
         go_ret
         exact ⟨by rw [HRR.out] <;> rfl, HX0.out.trans (HXP.out.trans hq)⟩
        | false =>
         cases i7 : inB y.2.2.2 0 1000 with
         | false =>
          rw [i7] at HM
          have HB : Hid (badLetter b y = true) := HA _ (by unfold badLetter; rw [i3, i4, i5, i6, i7]; rfl)
          have HRR : Hid (isBuyerB b x = false) := by unfold Hid; rw [HR.out, any_at HAT.out HB.out]; rfl
          clear HA HB ha i3 i7
          go_upto_region 7 with fail
          rw [← hWP]
          clear hWP e0 e1 e2 e3 c4 c5 b0 b1 b2 b3
          have hq := Ext.refl WP
          obtain ⟨q0, q1, q2, q3, c4, c5, b0, b1, b2, b3⟩ := HFZ.out _ hq
          go_wp2_with (first | (go_at_call 25; refine (HG.out _).mono ?_; rintro e w1 ⟨rfl, hx1⟩; replace hq := hq.trans hx1; clear hx1 q0 q1 q2 q3 c4 c5 b0 b1 b2 b3; obtain ⟨q0, q1, q2, q3, c4, c5, b0, b1, b2, b3⟩ := HFZ.out _ hq) | (go_at_call 24; refine (HM.out _).mono ?_; rintro e w1 ⟨rfl, rfl⟩))
          go_ret
          exact ⟨by rw [HRR.out] <;> rfl, HX0.out.trans (HXP.out.trans hq)⟩
         | true =>
          rw [i7] at HM
          have HB : Hid (badLetter b y = false) := HA _ (by unfold badLetter; rw [i3, i4, i5, i6, i7]; rfl)
          have HN : Hid ((x.letters.take (k + 1)).any (badLetter b) = false) := any_take HAT.out ha.out HB.out
          clear HA HB ha i3 i7
          go_upto_region 7 with fail
          rw [← hWP]
          clear hWP e0 e1 e2 e3 c4 c5 b0 b1 b2 b3
          have hq := Ext.refl WP
          obtain ⟨q0, q1, q2, q3, c4, c5, b0, b1, b2, b3⟩ := HFZ.out _ hq
          go_wp2_with (first | (go_at_call 25; refine (HG.out _).mono ?_; rintro e w1 ⟨rfl, hx1⟩; replace hq := hq.trans hx1; clear hx1 q0 q1 q2 q3 c4 c5 b0 b1 b2 b3; obtain ⟨q0, q1, q2, q3, c4, c5, b0, b1, b2, b3⟩ := HFZ.out _ hq) | (go_at_call 24; refine (HM.out _).mono ?_; rintro e w1 ⟨rfl, rfl⟩))
          exact ⟨⟨k + 1, by omega, by go_num, HN.out, HXP.out.trans hq⟩, by simp [intOf]; omega⟩
    ·have x1 : decide ((k : Int) < (x.letters.length : Int)) = false := by simpa using hlt
     have x2 : decide (k < x.letters.length) = false := by simpa using hlt
     have HRR : Hid (isBuyerB b x = true) := by
      unfold Hid
      have h := ha.out
      rw [List.take_of_length_le (by omega)] at h
      rw [HR.out, h]; rfl
     clear hlt ha
     go_wp2
     go_ret
     exact ⟨by rw [HRR.out] <;> rfl, HX0.out.trans HX.out⟩
end Go.Proofs.YtokananogogjaaaGreatDoor
