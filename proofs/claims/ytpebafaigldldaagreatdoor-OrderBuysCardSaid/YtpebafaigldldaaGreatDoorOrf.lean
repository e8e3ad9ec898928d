/- Sellers as the law and the reference have them: few, Sellers. -/
import Derived.Test.YtpebafaigldldaaGreatDoorRbk
import Derived.Test.YtpebafaigldldaaGreatDoorOco
namespace Go.Proofs.YtpebafaigldldaaGreatDoor
open Go.RowKit
def bigS (s : Seller) : Bool := decide (8 < s.stock.length) || decide (8 < s.price.length)
def fewB (ls : List Seller) : Bool := !((ls.take 7).any bigS) && decide (ls.length ≤ 6)
set_option maxRecDepth 100000 in
theorem few_any (v : Value) (ls : List Seller) (w : World) (hs : SellersAt w v ls) : Calls Tryz.prog 32 #[v] w fun e w' => e = .returned (.bool (fewB ls)) ∧ w = w' := by
 obtain ⟨a, c, rfl, h1, h2, h3⟩ := hs.open
 have H3 := Lib.hid h3
 clear hs h3
 go_enter Tryz.func32, Tryz.ntmps32
 go_wp2
 go_loop [3] (fun i => ∃ k : Nat, k ≤ ls.length ∧ k ≤ 7 ∧ i = .int .i64 (k : Int) ∧ Hid ((ls.take k).any bigS = false)) (fun i => ls.length - (intOf i).toNat)
 case atStart => exact ⟨0, Nat.zero_le _, by omega, rfl, by simp [Hid]⟩
 case round =>
  obtain ⟨k, hk, hk7, rfl, ha⟩ := hrel
  by_cases hlt : k < ls.length
  ·have t1 : decide ((k : Int) < (ls.length : Int)) = true := by simpa using hlt
   have k1 : (0 : Int) ≤ (k : Int) := by omega
   have k2 : (k : Int) < (ls.length : Int) := by omega
   by_cases hl7 : k < 7
   ·have t2 : decide ((k : Int) < 7) = true := by simp; omega
    obtain ⟨b, o, s, sa, sc, pa, pc, rfl, hx, d0, d1, d2, -, -⟩ := H3.out k hlt
    have h8 : (ls.take 7)[k]? = some s := by rw [List.getElem?_take, if_pos hl7]; exact hx.out
    by_cases j1 : 8 < s.stock.length
    ·have t3 : decide ((8 : Int) < (s.stock.length : Int)) = true := by simp; omega
     have HR : Hid (fewB ls = false) := by unfold Hid fewB; rw [any_at h8 (show bigS s = true by unfold bigS; rw [decide_eq_true j1]; rfl)]; rfl
     clear ha hx h8 j1
     go_wp2
     go_ret
     exact ⟨by rw [HR.out] <;> rfl, rfl⟩
    ·have t3 : decide ((8 : Int) < (s.stock.length : Int)) = false := by simp; omega
     by_cases j2 : 8 < s.price.length
     ·have t4 : decide ((8 : Int) < (s.price.length : Int)) = true := by simp; omega
      have HR : Hid (fewB ls = false) := by unfold Hid fewB; rw [any_at h8 (show bigS s = true by unfold bigS; rw [decide_eq_true j2, Bool.or_true])]; rfl
      clear ha hx h8 j1 j2
      go_wp2
      go_ret
      exact ⟨by rw [HR.out] <;> rfl, rfl⟩
     ·have t4 : decide ((8 : Int) < (s.price.length : Int)) = false := by simp; omega
      have HA := Lib.hid (any_take hx.out ha.out (show bigS s = false by unfold bigS; rw [decide_eq_false j1, decide_eq_false j2]; rfl))
      clear ha hx h8 j1 j2
      go_wp2
      go_round
      case rel => exact ⟨k + 1, by omega, by omega, by go_num, HA.out⟩
      case measure => simp [intOf]; omega
   ·have t2 : decide ((k : Int) < 7) = false := by simp; omega
    have t3 : decide ((ls.length : Int) ≤ 6) = false := by simp; omega
    have HR : Hid (fewB ls = false) := by unfold Hid fewB; rw [decide_eq_false (show ¬ ls.length ≤ 6 by omega), Bool.and_false]
    clear ha
    go_wp2
    go_ret
    exact ⟨by rw [HR.out] <;> rfl, rfl⟩
  ·have t1 : decide ((k : Int) < (ls.length : Int)) = false := by simpa using hlt
   have ha2 := ha.out
   rw [List.take_of_length_le (by omega)] at ha2
   have HR : Hid (fewB ls = decide ((ls.length : Int) ≤ 6)) := by
    unfold Hid fewB
    rw [List.take_of_length_le (by omega), ha2, Bool.not_false, Bool.true_and]
    rw [Bool.eq_iff_iff, decide_eq_true_eq, decide_eq_true_eq]; omega
   clear ha ha2
   go_wp2
   go_ret
   exact ⟨by rw [HR.out] <;> rfl, rfl⟩
def badU (m : Int) (v : Int) : Bool := !inB v 0 m
theorem badL_eq (n : Nat) (most : Int) (x : List Int) : badL n most x = (decide ((x.length : Int) ≠ n) || x.any (badU most)) := rfl
set_option maxRecDepth 100000 in
set_option maxHeartbeats 8000000 in
theorem rsellers_any (v : Value) (ls : List Seller) (n : Nat) (w : World) (hs : SellersAt w v ls) (hn : n ≤ 1000) :
 Calls Tryz.prog 35 #[v, .int .i64 (n : Int)] w fun e w' => e = .returned (.bool (isSellersB n ls)) ∧ Ext w w' := by
 obtain ⟨a, c, rfl, h1, h2, h3⟩ := hs.open
 have H3 := Lib.hid h3
 have hse : isSellersB n ls = (inB ls.length 1 4 && !(ls.any (badSeller n))) := rfl
 have HSE := Lib.hid hse
 clear hs h3 hse
 go_enter Tryz.func35, Tryz.ntmps35
 go_wp2
 go_loopw [5] (fun i wr => ∃ k : Nat, k ≤ ls.length ∧ i = .int .i64 (k : Int) ∧ Hid ((ls.take k).any (badSeller n) = false) ∧ Ext w wr) (fun i _ => ls.length - (intOf i).toNat)
 case atStart => exact ⟨0, Nat.zero_le _, rfl, by simp [Hid], Ext.refl _⟩
 case round =>
  obtain ⟨k, hk, rfl, ha, hx⟩ := hrel
  obtain ⟨wo, rfl⟩ : ∃ wo : World, wo = wr := ⟨_, rfl⟩
  by_cases hlt : k < ls.length
  ·obtain ⟨b, o, s, sa, sc, pa, pc, rfl, hsk, d0, d1, d2, hst, hpr⟩ := H3.out k hlt
   have k1 : (0 : Int) ≤ (k : Int) := by omega
   have k2 : (k : Int) < (ls.length : Int) := by omega
   have x1 : decide ((k : Int) < (ls.length : Int)) = true := by simpa using hlt
   have f0 := hx.cell d0
   have f1 := hx.cell d1
   have f2 := hx.cell d2
   have HB0 : Hid (badSeller n s = true → isSellersB n ls = false) := fun h => by rw [HSE.out, any_at hsk.out h]; simp
   have HBS : Hid (badSeller n s = (!inB s.parcel 0 1000 || (decide ((s.stock.length : Int) ≠ n) || s.stock.any (badU 100)) || (decide ((s.price.length : Int) ≠ n) || s.price.any (badU 1000)))) := rfl
   obtain ⟨W5, hW5⟩ : ∃ W5, W5 = wo.alloc (.cells #[.int .i64 s.parcel, .slice sa s.stock.length sc, .slice pa s.price.length pc] 79) := ⟨_, rfl⟩
   have hx5 : Ext w W5 := by rw [hW5]; exact hx.alloc _
   have HB5 := Lib.hid (show W5.heap[wo.heap.size]? = some (.cells #[.int .i64 s.parcel, .slice sa s.stock.length sc, .slice pa s.price.length pc] 79) by rw [hW5]; exact World.alloc_heap_new _ _)
   obtain ⟨⟨y0, y1, y2⟩, -⟩ := cells3 HB5.out
   have HI := Lib.hid (fun W1 => rin_any s.parcel 0 1000 W1)
   have HX5 := Lib.hid hx5
   have HST := Lib.hid hst
   have HPR := Lib.hid hpr
   clear hst hpr d0 d1 d2 hx5 hx
   go_upto_region 5 with fail
   rw [← hW5]
   clear hW5 f0 f1 f2
   cases i1 : inB s.parcel 0 1000 with
   | false =>
    rw [i1] at HI
    have HR := Lib.hid (HB0.out (by rw [HBS.out, i1]; rfl))
    clear i1 ha hsk
    go_wp2_with (go_at_call 72; refine (HI.out _).mono ?_; rintro e w' ⟨rfl, rfl⟩)
    go_ret
    exact ⟨by rw [HR.out] <;> rfl, HX5.out⟩
   | true =>
   rw [i1] at HI
   by_cases i2 : s.stock.length = n
   rotate_left
   ·have t2 : ((s.stock.length : Int) != (n : Int)) = true := by simp; omega
    have HR := Lib.hid (HB0.out (by rw [HBS.out, decide_eq_true (show (s.stock.length : Int) ≠ n by omega)]; simp))
    clear i1 i2 ha hsk
    go_wp2_with (go_at_call 72; refine (HI.out _).mono ?_; rintro e w' ⟨rfl, rfl⟩)
    go_ret
    exact ⟨by rw [HR.out] <;> rfl, HX5.out⟩
   have t2 : ((s.stock.length : Int) != (n : Int)) = false := by simp; omega
   by_cases i3 : s.price.length = n
   rotate_left
   ·have t3 : ((s.price.length : Int) != (n : Int)) = true := by simp; omega
    have HR := Lib.hid (HB0.out (by rw [HBS.out, decide_eq_true (show (s.price.length : Int) ≠ n by omega)]; simp))
    clear i1 i2 i3 ha hsk
    go_wp2_with (go_at_call 72; refine (HI.out _).mono ?_; rintro e w' ⟨rfl, rfl⟩)
    go_ret
    exact ⟨by rw [HR.out] <;> rfl, HX5.out⟩
   have t3 : ((s.price.length : Int) != (n : Int)) = false := by simp; omega
   have HBR : Hid (badSeller n s = (s.stock.any (badU 100) || s.price.any (badU 1000))) := by
    unfold Hid; rw [HBS.out, i1, decide_eq_false (show ¬ (s.stock.length : Int) ≠ n by omega), decide_eq_false (show ¬ (s.price.length : Int) ≠ n by omega)]; rfl
   have HSK := Lib.hid hsk.out
   have HA := Lib.hid ha.out
   have HL2 := Lib.hid (And.intro i2 i3)
   obtain ⟨_, _, hve, _, _, hs3⟩ := HST.out.open
   cases hve
   obtain ⟨_, _, hve, _, _, hp3⟩ := HPR.out.open
   cases hve
   have HS3 := Lib.hid hs3
   have HP3 := Lib.hid hp3
   clear i1 i2 i3 ha hsk hs3 hp3 HBS
   go_wp2_with (go_at_call 72; refine (HI.out _).mono ?_; rintro e w' ⟨rfl, rfl⟩)
   clear HI t2 t3
   go_loop [7] (fun i => ∃ g : Nat, g ≤ n ∧ i = .int .i64 (g : Int) ∧ Hid ((s.stock.take g).any (badU 100) = false ∧ (s.price.take g).any (badU 1000) = false)) (fun i => n - (intOf i).toNat)
   case atStart => exact ⟨0, Nat.zero_le _, rfl, by simp [Hid]⟩
   case round =>
    obtain ⟨g, hg, rfl, hab⟩ := hrel
    obtain ⟨l1, l2⟩ := HL2.out
    by_cases hgl : g < n
    ·obtain ⟨sb, so, x, rfl, hxk, c0⟩ := HS3.out g (by omega)
     obtain ⟨qb, qo, z, rfl, hzk, c1⟩ := HP3.out g (by omega)
     have j1 : (0 : Int) ≤ (g : Int) := by omega
     have j2 : (g : Int) < (s.stock.length : Int) := by omega
     have j3 : (g : Int) < (s.price.length : Int) := by omega
     have x2 : decide ((g : Int) < (n : Int)) = true := by simpa using hgl
     have m0 := HX5.out.cell c0
     have m1 := HX5.out.cell c1
     have HI1 := Lib.hid (fun W1 => rin_any x 0 100 W1)
     have HI2 := Lib.hid (fun W1 => rin_any z 0 1000 W1)
     clear c0 c1 l1 l2
     cases i1 : inB x 0 100 with
     | false =>
      rw [i1] at HI1
      have HR := Lib.hid (HB0.out (by rw [HBR.out, any_at hxk.out (show badU 100 x = true by unfold badU; rw [i1]; rfl)]; rfl))
      clear i1 hab hxk hzk HI2
      go_wp2_with (go_at_call 72; refine (HI1.out _).mono ?_; rintro e w' ⟨rfl, rfl⟩)
      go_ret
      exact ⟨by rw [HR.out] <;> rfl, HX5.out⟩
     | true =>
     rw [i1] at HI1
     cases i2 : inB z 0 1000 with
     | false =>
      rw [i2] at HI2
      have HR := Lib.hid (HB0.out (by rw [HBR.out, any_at hzk.out (show badU 1000 z = true by unfold badU; rw [i2]; rfl)]; simp))
      clear i1 i2 hab hxk hzk
      go_wp2_with (first | (go_at_call 72; refine (HI1.out _).mono ?_; rintro e w' ⟨rfl, rfl⟩; clear HI1) | (go_at_call 72; refine (HI2.out _).mono ?_; rintro e w' ⟨rfl, rfl⟩; clear HI2))
      go_ret
      exact ⟨by rw [HR.out] <;> rfl, HX5.out⟩
     | true =>
      rw [i2] at HI2
      have HAB := Lib.hid (And.intro (any_take hxk.out hab.out.1 (show badU 100 x = false by unfold badU; rw [i1]; rfl)) (any_take hzk.out hab.out.2 (show badU 1000 z = false by unfold badU; rw [i2]; rfl)))
      clear i1 i2 hab hxk hzk
      go_wp2_with (first | (go_at_call 72; refine (HI1.out _).mono ?_; rintro e w' ⟨rfl, rfl⟩; clear HI1) | (go_at_call 72; refine (HI2.out _).mono ?_; rintro e w' ⟨rfl, rfl⟩; clear HI2))
      go_round
      case rel => exact ⟨g + 1, by omega, by go_num, HAB.out⟩
      case measure => simp [intOf]; omega
    ·have x2 : decide ((g : Int) < (n : Int)) = false := by simpa using hgl
     have hab2 := hab.out
     rw [List.take_of_length_le (by omega), List.take_of_length_le (by omega)] at hab2
     have HA2 := Lib.hid (any_take HSK.out HA.out (show badSeller n s = false by rw [HBR.out, hab2.1, hab2.2]; rfl))
     clear hab hab2 l1 l2
     go_wp2
     exact ⟨⟨k + 1, by omega, by go_num, HA2.out, HX5.out⟩, by simp [intOf]; omega⟩
  ·have x1 : decide ((k : Int) < (ls.length : Int)) = false := by simpa using hlt
   have ha2 := ha.out
   rw [List.take_of_length_le (by omega)] at ha2
   have HR : Hid (isSellersB n ls = inB ls.length 1 4) := by unfold Hid; rw [HSE.out, ha2]; simp
   have HX := Lib.hid hx
   clear ha ha2 hx
   go_wp2_with (go_at_call 72; refine (rin_any _ _ _ _).mono ?_; rintro e w' ⟨rfl, rfl⟩)
   go_ret
   exact ⟨by rw [HR.out] <;> rfl, HX.out⟩
end Go.Proofs.YtpebafaigldldaaGreatDoor
