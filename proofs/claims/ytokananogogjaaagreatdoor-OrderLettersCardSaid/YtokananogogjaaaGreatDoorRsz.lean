/- The law's sized; the reference's Sized. -/
import Derived.Test.YtokananogogjaaaGreatDoorRbk
import Derived.Test.YtokananogogjaaaGreatDoorOc
import Derived.Test.YtokananogogjaaaGreatDoorOft
import Derived.Test.YtokananogogjaaaGreatDoorHeld
namespace Go.Proofs.YtokananogogjaaaGreatDoor
open Go.RowKit
def sizedB (t : List (List Int)) : Bool := !((t.take 8).any fun l => decide (8 < l.length)) && decide (t.length ≤ 7)
set_option maxRecDepth 100000 in
set_option maxHeartbeats 1000000 in
theorem sized_any (v : Value) (t : List (List Int)) (w : World) (ht : IntRowsAt w v t) : Calls Tryz.prog 6 #[v] w fun e w' => e = .returned (.bool (sizedB t)) ∧ w = w' := by
 obtain ⟨a, c, rfl, h1, h2, h3⟩ := ht.open
 have H3 := Lib.hid h3
 clear ht h3
 go_enter Tryz.func6, Tryz.ntmps6
 go_wp2
 go_loop [3] (fun i => ∃ k : Nat, k ≤ t.length ∧ k ≤ 8 ∧ i = .int .i64 (k : Int) ∧ Hid ((t.take k).any (fun l => decide (8 < l.length)) = false)) (fun i => t.length - (intOf i).toNat)
 case atStart => exact ⟨0, Nat.zero_le _, by omega, rfl, by simp [Hid]⟩
 case round =>
  obtain ⟨k, hk, hk8, rfl, ha⟩ := hrel
  by_cases hlt : k < t.length
  ·have t1 : decide ((k : Int) < (t.length : Int)) = true := by simpa using hlt
   have k1 : (0 : Int) ≤ (k : Int) := by omega
   have k2 : (k : Int) < (t.length : Int) := by omega
   by_cases hl8 : k < 8
   ·have t2 : decide ((k : Int) < 8) = true := by simp; omega
    obtain ⟨bb, o, l, la, lc, rfl, hx, c0, hil, _, _⟩ := H3.out k hlt
    cases i1 : decide (8 < l.length) with
    | true =>
     have t3 : decide ((8 : Int) < (l.length : Int)) = true := by simp at i1 ⊢; omega
     have HR : Hid (sizedB t = false) := by
      unfold Hid sizedB
      have h8 : (t.take 8)[k]? = some l := by rw [List.getElem?_take, if_pos hl8]; exact hx.out
      rw [any_at h8 i1]; rfl
     clear ha hx i1
     go_wp2
     go_ret
     exact ⟨by rw [HR.out] <;> rfl, rfl⟩
    | false =>
     have t3 : decide ((8 : Int) < (l.length : Int)) = false := by simp at i1 ⊢; omega
     have HA := Lib.hid (any_take hx.out ha.out (show (fun l : List Int => decide (8 < l.length)) l = false from i1))
     clear ha hx i1
     go_wp2
     go_round
     case rel => exact ⟨k + 1, by omega, by omega, by go_num, HA.out⟩
     case measure => simp [intOf]; omega
   ·have t2 : decide ((k : Int) < 8) = false := by simp; omega
    have t3 : decide ((t.length : Int) ≤ 7) = false := by simp; omega
    have HR : Hid (sizedB t = false) := by unfold Hid sizedB; rw [decide_eq_false (show ¬ t.length ≤ 7 by omega), Bool.and_false]
    clear ha
    go_wp2
    go_ret
    exact ⟨by rw [HR.out] <;> rfl, rfl⟩
  ·have t1 : decide ((k : Int) < (t.length : Int)) = false := by simpa using hlt
   have ha2 := ha.out
   rw [List.take_of_length_le (by omega)] at ha2
   have HR : Hid (sizedB t = decide (t.length ≤ 7)) := by unfold Hid sizedB; rw [List.take_of_length_le (by omega), ha2]; simp
   clear ha ha2
   cases i2 : decide (t.length ≤ 7) with
   | true =>
    have t3 : decide ((t.length : Int) ≤ 7) = true := by simp at i2 ⊢; omega
    rw [i2] at HR
    clear i2
    go_wp2
    go_ret
    exact ⟨by rw [HR.out] <;> rfl, rfl⟩
   | false =>
    have t3 : decide ((t.length : Int) ≤ 7) = false := by simp at i2 ⊢; omega
    rw [i2] at HR
    clear i2
    go_wp2
    go_ret
    exact ⟨by rw [HR.out] <;> rfl, rfl⟩
set_option maxRecDepth 100000 in
set_option maxHeartbeats 4000000 in
theorem rsized_any (v tv : Value) (b : Book) (t : List (List Int)) (w : World) (hb : BookAt w v b) (ht : TruthAt w tv t) :
  Calls Tryz.prog 9 #[v, tv] w fun e w' => e = .returned (.bool (isMeansB b t)) ∧ Ext w w' := by
 obtain ⟨rv, rfl, hr⟩ := ht
 obtain ⟨ga, gc, ea, ec, rfl, hgl, hel⟩ := hb.open
 obtain ⟨ra, rc, rfl, r1, r2, r3⟩ := hr.open
 obtain ⟨W, HW⟩ : ∃ W, Hid (W = (w.alloc (bookBox (.slice ga b.goods.length gc) b (.slice ea b.entries.length ec))).alloc (.cells #[.slice ra t.length rc] 31)) := ⟨_, rfl⟩
 have HX0 := Lib.hid (show Ext w W by rw [HW.out]; exact ((Ext.refl w).alloc _).alloc _)
 have HF := Lib.hid (fun W1 (h : Ext W W1) => (And.intro (h.cell (show W.cell? ⟨w.heap.size + 1, 0, none⟩ = some (.slice ra t.length rc) by rw [HW.out]; go_simp)) (BoxAt.ext (show BoxAt W w.heap.size (.slice ga b.goods.length gc) b (.slice ea b.entries.length ec) by rw [HW.out]; exact (BoxAt.new _ _ _ _).ext ((Ext.refl _).alloc _)) h)))
 have H3 := Lib.hid r3
 have HGD := Lib.hid (fun n W1 => rgood_any ga ea gc b.entries.length ec b n W1 hgl)
 have HM : Hid (isMeansB b t = (decide ((t.length : Int) = b.editions) && !(t.any (badRow b)))) := rfl
 clear hb hr r3
 go_enter Tryz.func9, Tryz.ntmps9
 go_upto_region 1 with fail
 rw [← HW.out]
 have hq := Ext.refl W
 go_wp2_with fail
 go_loopw [5] (fun i wr => ∃ k : Nat, k ≤ t.length ∧ i = .int .i64 (k : Int) ∧ Hid ((t.take k).any (badRow b) = false) ∧ Ext W wr) (fun i _ => t.length - (intOf i).toNat)
 case atStart => exact ⟨0, Nat.zero_le _, rfl, by simp [Hid], hq⟩
 case round =>
  clear hq
  obtain ⟨k, hk, rfl, ha, hx⟩ := hrel
  obtain ⟨wo, rfl⟩ : ∃ wo : World, wo = wr := ⟨_, rfl⟩
  obtain ⟨m0, b0, b1, b2, b3⟩ := HF.out _ hx
  by_cases hlt : k < t.length
  ·obtain ⟨bb, o, l, la, lc, rfl, hl, c0, hil, _, _⟩ := H3.out k hlt
   have HLI := Lib.hid hil
   have k1 : (0 : Int) ≤ (k : Int) := by omega
   have k2 : (k : Int) < (t.length : Int) := by omega
   have x1 : decide ((k : Int) < (t.length : Int)) = true := by simpa using hlt
   have c0' := (HX0.out.trans hx).cell c0
   have HFX := Lib.hid (fun W1 (h : Ext wo W1) => (And.intro (HF.out _ (hx.trans h)).1 (And.intro (HF.out _ (hx.trans h)).2.1 (And.intro (HF.out _ (hx.trans h)).2.2.1 (And.intro (HF.out _ (hx.trans h)).2.2.2.1 (And.intro (HF.out _ (hx.trans h)).2.2.2.2 (h.cell c0')))))))
   have ebad : badRow b l = (decide ((l.length : Int) ≠ b.goods.length) || l.any fun n => !isNumberB b n) := rfl
   have HXX := Lib.hid hx
   clear c0 hil
   cases i1 : ((l.length : Int) != (b.goods.length : Int)) with
   | true =>
    have HR : Hid (isMeansB b t = false) := by unfold Hid; rw [HM.out, any_at hl.out (by rw [ebad]; simp at i1 ⊢; exact .inl i1)]; simp
    clear ha hl ebad hx
    go_upto_region 4 with fail
    clear m0 b0 b1 b2 b3 c0'
    refine region_reads (C := fun W => Ext wo W) (by kernel_rfl) (by kernel_rfl) ((Ext.refl wo).drew) ?_
    repeat (first | go_big_quiet_skip | (go_big_quiet_want; go_big_quiet_op; first | go_big_quiet_on | (refine ⟨_, fun W hW => rfl, ?_⟩; go_big_quiet_on)) | (go_big_quiet_want; refine ⟨?_, fun W hW => ?_, ?_⟩; rotate_left; (· (obtain ⟨m0, b0, b1, b2, b3, c0⟩ := HFX.out W hW; go_simp; (first | with_reducible rfl))); (try simp only [Act.put, yA, yB, yC]); go_big_quiet_on))
    refine wpQuiet_nil ?_
    intro wq hq
    go_wp2
    go_ret
    exact ⟨by rw [HR.out] <;> rfl, HX0.out.trans (HXX.out.trans hq)⟩
   | false =>
    go_upto_region 4 with fail
    clear m0 b0 b1 b2 b3 c0'
    refine region_reads (C := fun W => Ext wo W) (by kernel_rfl) (by kernel_rfl) ((Ext.refl wo).drew) ?_
    repeat (first | go_big_quiet_skip | (go_big_quiet_want; go_big_quiet_op; first | go_big_quiet_on | (refine ⟨_, fun W hW => rfl, ?_⟩; go_big_quiet_on)) | (go_big_quiet_want; refine ⟨?_, fun W hW => ?_, ?_⟩; rotate_left; (· (obtain ⟨m0, b0, b1, b2, b3, c0⟩ := HFX.out W hW; go_simp; (first | with_reducible rfl))); (try simp only [Act.put, yA, yB, yC]); go_big_quiet_on))
    refine wpQuiet_nil ?_
    intro wq hq
    go_wp2_with fail
    have HEB := Lib.hid ebad
    have HI1 := Lib.hid i1
    clear x1 ebad i1
    go_loopw [6] (fun i wr => ∃ j : Nat, j ≤ l.length ∧ i = .int .i64 (j : Int) ∧ Hid ((l.take j).any (fun n => !isNumberB b n) = false) ∧ Ext wo wr) (fun i _ => l.length - (intOf i).toNat)
    case atStart => exact ⟨0, Nat.zero_le _, rfl, by simp [Hid], hq⟩
    case round =>
     clear hq
     obtain ⟨j, hj, rfl, haj, hz⟩ := hrel
     obtain ⟨m0, b0, b1, b2, b3, c0⟩ := HFX.out _ hz
     have hlk := HLI.out
     by_cases hjl : j < l.length
     ·obtain ⟨lb, lo, hla, n, hn, d0⟩ : ∃ lb lo, la = some ⟨lb, lo, none⟩ ∧ ∃ n, Hid (l[j]? = some n) ∧ w.cell? ⟨lb, lo + j, none⟩ = some (.int .i64 n) := by
       obtain ⟨la', lc', hv, _, _, h6⟩ := hlk.open
       obtain ⟨lb, lo, n, h7, h8, h9⟩ := h6 j hjl
       cases hv
       exact ⟨lb, lo, h7, n, h8, h9⟩
      subst hla
      have x2 : decide ((j : Int) < (l.length : Int)) = true := by simpa using hjl
      have j1 : (0 : Int) ≤ (j : Int) := by omega
      have j2 : (j : Int) < (l.length : Int) := by omega
      have HFY := Lib.hid (fun W1 (h : Ext wr W1) => (And.intro ((HX0.out.trans (HXX.out.trans (hz.trans h))).cell d0) (HFX.out _ (hz.trans h))))
      have HGN := Lib.hid (fun W1 => HGD.out n W1)
      have HZZ := Lib.hid hz
      clear d0 hlk
      cases i2 : isNumberB b n with
      | false =>
       rw [i2] at HGN
       have HR : Hid (isMeansB b t = false) := by unfold Hid; rw [HM.out, any_at hl.out (by rw [HEB.out, any_at hn.out (show (fun n => !isNumberB b n) n = true by simp [i2])]; simp)]; simp
       clear i2 ha hl haj hn hz
       go_upto_region 9 with fail
       clear m0 b0 b1 b2 b3 c0
       refine region_reads (C := fun W => Ext wr W) (by kernel_rfl) (by kernel_rfl) ((Ext.refl wr).drew) ?_
       repeat (first | go_big_quiet_skip | (go_big_quiet_want; go_big_quiet_op; first | go_big_quiet_on | (refine ⟨_, fun W hW => rfl, ?_⟩; go_big_quiet_on)) | (go_big_quiet_want; refine ⟨?_, fun W hW => ?_, ?_⟩; rotate_left; (· (obtain ⟨d0, m0, b0, b1, b2, b3, c0⟩ := HFY.out W hW; go_simp; (first | with_reducible rfl | (go_at_call 25; refine (HGN.out _).mono ?_; rintro e w' ⟨rfl, hx1⟩; constructor; with_reducible rfl; exact hW.trans hx1)))); (try simp only [Act.put, yA, yB, yC]); go_big_quiet_on))
       refine wpQuiet_nil ?_
       intro wq hq
       go_wp2
       go_ret
       exact ⟨by rw [HR.out] <;> rfl, HX0.out.trans (HXX.out.trans (HZZ.out.trans hq))⟩
      | true =>
       rw [i2] at HGN
       have HA := Lib.hid (any_take hn.out haj.out (show (fun n => !isNumberB b n) n = false by simp [i2]))
       clear i2 haj hn hz
       go_upto_region 9 with fail
       clear m0 b0 b1 b2 b3 c0
       refine region_reads (C := fun W => Ext wr W) (by kernel_rfl) (by kernel_rfl) ((Ext.refl wr).drew) ?_
       repeat (first | go_big_quiet_skip | (go_big_quiet_want; go_big_quiet_op; first | go_big_quiet_on | (refine ⟨_, fun W hW => rfl, ?_⟩; go_big_quiet_on)) | (go_big_quiet_want; refine ⟨?_, fun W hW => ?_, ?_⟩; rotate_left; (· (obtain ⟨d0, m0, b0, b1, b2, b3, c0⟩ := HFY.out W hW; go_simp; (first | with_reducible rfl | (go_at_call 25; refine (HGN.out _).mono ?_; rintro e w' ⟨rfl, hx1⟩; constructor; with_reducible rfl; exact hW.trans hx1)))); (try simp only [Act.put, yA, yB, yC]); go_big_quiet_on))
       refine wpQuiet_nil ?_
       intro wq hq
       go_wp2
       go_roundw
       case rel => exact ⟨j + 1, by omega, by go_num, HA.out, HZZ.out.trans hq⟩
       case measure => simp [intOf]; omega
     ·have hj2 := haj.out
      rw [List.take_of_length_le (by omega)] at hj2
      have hje : j = l.length := by omega
      subst hje
      have x2 : decide ((l.length : Int) < (l.length : Int)) = false := by simp
      have HA : Hid ((t.take (k + 1)).any (badRow b) = false) := any_take hl.out ha.out (by
       have h9 := HI1.out
       rw [HEB.out, hj2]
       simp at h9 ⊢
       exact h9)
      clear haj hj2 ha hl
      go_wp2
      exact ⟨⟨k + 1, by omega, by go_num, HA.out, HXX.out.trans hz⟩, by simp [intOf]; omega⟩
  ·have ha2 := ha.out
   rw [List.take_of_length_le (by omega)] at ha2
   have hke : k = t.length := by omega
   subst hke
   have x1 : decide ((t.length : Int) < (t.length : Int)) = false := by simp
   have HR : Hid (isMeansB b t = decide ((t.length : Int) = b.editions)) := by unfold Hid; rw [HM.out, ha2]; simp
   clear ha ha2
   cases i3 : ((t.length : Int) == b.editions) with
   | true =>
    have HV : Hid (isMeansB b t = true) := by unfold Hid; rw [HR.out]; simpa using i3
    go_wp2
    go_ret
    exact ⟨by rw [HV.out] <;> rfl, HX0.out.trans hx⟩
   | false =>
    have HV : Hid (isMeansB b t = false) := by unfold Hid; rw [HR.out]; simpa using i3
    go_wp2
    go_ret
    exact ⟨by rw [HV.out] <;> rfl, HX0.out.trans hx⟩
end Go.Proofs.YtokananogogjaaaGreatDoor
