/- The reference's allowed. -/
import Derived.Test.YtoohhefegfpipaaGreatDoorRbkq
import Derived.Test.YtoohhefegfpipaaGreatDoorPlaq
namespace Go.Proofs.YtoohhefegfpipaaGreatDoor
open Go.RowKit
set_option maxRecDepth 100000 in
set_option maxHeartbeats 8000000 in
theorem rallowed_any (bv lv : Value) (b : Book) (e : Nat) (l : List Int) (w : World) (hB : BookB b) (hll : l.length = b.goods.length) (hb : BookAt w bv b) (hl : IntsAt w lv l) :
 Calls Tryz.prog 108 #[bv, .int .i64 (e : Int), lv] w fun r w' => r = .returned (.bool (allowedB b e l)) ∧ Ext w w' := by
 have hb0 := hb
 obtain ⟨ga, gc, ea, ec, rfl, hgl, hel⟩ := hb.open
 obtain ⟨_, _, hv, hg, he⟩ := hb0
 cases hv
 obtain ⟨e1, e2, hev, _, _, he3⟩ := RowOf.open3 (f := entryC) (f0 := fun x => .int .i64 x.1) (f1 := fun x => .int .i64 x.2.1) (f2 := fun x => .int .i64 x.2.2) (fun _ => rfl) he
 cases hev
 obtain ⟨la, lc, rfl, _, _, hl3⟩ := hl.open
 obtain ⟨W, HW⟩ : ∃ W, Hid (W = w.alloc (bookBox (.slice ga b.goods.length gc) b (.slice ea b.entries.length ec))) := ⟨_, rfl⟩
 have HX0 := Lib.hid (show Ext w W by rw [HW.out]; exact (Ext.refl w).alloc _)
 have HF := Lib.hid (fun W1 (h : Ext W W1) => BoxAt.ext (show BoxAt W w.heap.size (.slice ga b.goods.length gc) b (.slice ea b.entries.length ec) by rw [HW.out]; exact BoxAt.new _ _ _ _) h)
 have HE3 := Lib.hid he3
 have HL3 := Lib.hid hl3
 have HEN := Lib.hid hB.entries
 have HLL := Lib.hid hll
 have HA : Hid (allowedB b e l = !(b.entries.any (breaks e l))) := rfl
 clear hb hg he he3 hl3 hl hB hll
 go_enter Tryz.func108, Tryz.ntmps108
 go_upto_region 1 with fail
 rw [← HW.out]
 go_wp2
 go_loopw [7] (fun i wr => ∃ k : Nat, k ≤ b.entries.length ∧ i = .int .i64 (k : Int) ∧ Hid ((b.entries.take k).any (breaks e l) = false) ∧ Ext W wr) (fun i _ => b.entries.length - (intOf i).toNat)
 case atStart => exact ⟨0, Nat.zero_le _, rfl, by simp [Hid], Ext.refl _⟩
 case round =>
  obtain ⟨k, hk, rfl, ha, hx⟩ := hrel
  obtain ⟨b0, b1, b2, b3⟩ := HF.out _ hx
  by_cases hle : k < b.entries.length
  ·obtain ⟨bb, o, x, rfl, hxk, q0, q1, q2⟩ := HE3.out k hle
   have d0 := (HX0.out.trans hx).cell q0
   have d1 := (HX0.out.trans hx).cell q1
   have d2 := (HX0.out.trans hx).cell q2
   have k1 : (0 : Int) ≤ (k : Int) := by omega
   have k2 : (k : Int) < (b.entries.length : Int) := by omega
   have x3 : decide ((k : Int) < (b.entries.length : Int)) = true := by simpa using hle
   have hen := HEN.out x (List.mem_of_getElem? hxk.out)
   obtain ⟨xe, xn, xg⟩ := x
   simp only at hen d0 d1 d2 q0 q1 q2
   obtain ⟨N, hN⟩ : ∃ N : Nat, xn = (N : Int) := ⟨xn.toNat, by omega⟩
   subst hN
   have hNl : N < l.length := by have := HLL.out; omega
   obtain ⟨yb, yo, y, rfl, hyn, r0⟩ := HL3.out N hNl
   have n1 : (0 : Int) ≤ (N : Int) := by omega
   have n2 : (N : Int) < (l.length : Int) := by omega
   have r1 := (HX0.out.trans hx).cell r0
   go_upto_region 5 with fail
   obtain ⟨wa, hwa⟩ : ∃ wa : World, wa = wr.alloc (.cells #[.int .i64 xe, .int .i64 (N : Int), .int .i64 xg] 126) := ⟨_, rfl⟩
   have hxa : Ext wr wa := by rw [hwa]; exact (Ext.refl _).alloc _
   have HCC := Lib.hid (fun W1 (h : Ext wa W1) => (⟨h.cell (by rw [hwa]; go_simp), h.cell (by rw [hwa]; go_simp), h.cell (by rw [hwa]; go_simp), (hxa.trans h).cell r1⟩ : W1.cell? ⟨wr.heap.size, 0, none⟩ = some (.int .i64 xe) ∧ W1.cell? ⟨wr.heap.size, 1, none⟩ = some (.int .i64 (N : Int)) ∧ W1.cell? ⟨wr.heap.size, 2, none⟩ = some (.int .i64 xg) ∧ W1.cell? ⟨yb, yo + N, none⟩ = some (.int .i64 y)))
   rw [← hwa]
   have HXA := Lib.hid (HX0.out.trans (hx.trans hxa))
   have HXB := Lib.hid (hx.trans hxa)
   have hbr : breaks e l (xe, (N : Int), xg) = (xe == (e : Int) && y != xg) := by unfold breaks; simp only [Int.toNat_natCast]; rw [List.getD_eq_getElem?_getD, hyn.out]; rfl
   have HBR := Lib.hid hbr
   clear hwa d0 d1 d2 q0 q1 q2 b0 b1 b2 b3 hx hxa r0 r1 hyn hbr hen HE3 HL3
   by_cases h1 : xe = (e : Int)
   ·subst h1
    by_cases h2 : y = xg
    ·subst h2
     have HT := Lib.hid (any_take hxk.out ha.out (by rw [HBR.out]; simp))
     clear ha hxk
     refine region_reads (C := fun W => Ext wa W) (by kernel_rfl) (by kernel_rfl) ((Ext.refl wa).drew) ?_
     repeat (first | go_big_quiet_skip | (go_big_quiet_want; go_big_quiet_op; first | go_big_quiet_on | (refine ⟨_, fun W hW => rfl, ?_⟩; go_big_quiet_on)) | (go_big_quiet_want; refine ⟨?_, fun W hW => ?_, ?_⟩; rotate_left; (· (obtain ⟨c0, c1, c2, q0⟩ := HCC.out W hW; go_simp; (first | with_reducible rfl))); (try simp only [Act.put, yA, yB, yC]); go_big_quiet_on))
     refine wpQuiet_nil ?_
     intro wq hq
     go_wp2
     exact ⟨⟨k + 1, by omega, by go_num, HT.out, HXB.out.trans hq⟩, by simp [intOf]; omega⟩
    ·have y2 : (y != xg) = true := by simpa using h2
     have y3 : decide (y = xg) = false := by simpa using h2
     have y4 : (y == xg) = false := by simpa using h2
     have HR : Hid (allowedB b e l = false) := by unfold Hid; rw [HA.out, any_at hxk.out (by rw [HBR.out, y2]; simp)]; rfl
     clear ha hxk h2
     refine region_reads (C := fun W => Ext wa W) (by kernel_rfl) (by kernel_rfl) ((Ext.refl wa).drew) ?_
     repeat (first | go_big_quiet_skip | (go_big_quiet_want; go_big_quiet_op; first | go_big_quiet_on | (refine ⟨_, fun W hW => rfl, ?_⟩; go_big_quiet_on)) | (go_big_quiet_want; refine ⟨?_, fun W hW => ?_, ?_⟩; rotate_left; (· (obtain ⟨c0, c1, c2, q0⟩ := HCC.out W hW; go_simp; (first | with_reducible rfl))); (try simp only [Act.put, yA, yB, yC]); go_big_quiet_on))
     refine wpQuiet_nil ?_
     intro wq hq
     go_wp2
     go_ret
     exact ⟨by rw [HR.out] <;> rfl, HXA.out.trans hq⟩
   ·have y1 : (xe == (e : Int)) = false := by simpa using h1
    have y2 : decide (xe = (e : Int)) = false := by simpa using h1
    have HT := Lib.hid (any_take hxk.out ha.out (by rw [HBR.out, y1]; rfl))
    clear ha hxk h1
    refine region_reads (C := fun W => Ext wa W) (by kernel_rfl) (by kernel_rfl) ((Ext.refl wa).drew) ?_
    repeat (first | go_big_quiet_skip | (go_big_quiet_want; go_big_quiet_op; first | go_big_quiet_on | (refine ⟨_, fun W hW => rfl, ?_⟩; go_big_quiet_on)) | (go_big_quiet_want; refine ⟨?_, fun W hW => ?_, ?_⟩; rotate_left; (· (obtain ⟨c0, c1, c2, q0⟩ := HCC.out W hW; go_simp; (first | with_reducible rfl))); (try simp only [Act.put, yA, yB, yC]); go_big_quiet_on))
    refine wpQuiet_nil ?_
    intro wq hq
    go_wp2
    exact ⟨⟨k + 1, by omega, by go_num, HT.out, HXB.out.trans hq⟩, by simp [intOf]; omega⟩
  ·have x3 : decide ((k : Int) < (b.entries.length : Int)) = false := by simpa using hle
   have HR : Hid (allowedB b e l = true) := by
    unfold Hid
    have h := ha.out
    rw [List.take_of_length_le (by omega)] at h
    rw [HA.out, h]; rfl
   have HX := Lib.hid (HX0.out.trans hx)
   clear ha hx
   go_wp2
   go_ret
   exact ⟨by rw [HR.out] <;> rfl, HX.out⟩
end Go.Proofs.YtoohhefegfpipaaGreatDoor
