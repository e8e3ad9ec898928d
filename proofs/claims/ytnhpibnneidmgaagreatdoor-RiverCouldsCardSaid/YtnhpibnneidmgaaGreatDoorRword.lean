/- The reference's Word. -/
import Derived.Test.YtnhpibnneidmgaaGreatDoorRcould
import Derived.Test.YtnhpibnneidmgaaGreatDoorRcl
import Derived.Test.YtnhpibnneidmgaaGreatDoorReads
namespace Go.Proofs.YtnhpibnneidmgaaGreatDoor
open Go.RowKit
theorem countP_yes {L : List Org} {f : Org → Bool} {k : Nat} {x : Org} (h : L[k]? = some x) (hf : f x = true) : (L.take (k + 1)).countP f = (L.take k).countP f + 1 := by
 rw [List.take_add_one, h]; simp [hf]
theorem countP_no {L : List Org} {f : Org → Bool} {k : Nat} {x : Org} (h : L[k]? = some x) (hf : f x = false) : (L.take (k + 1)).countP f = (L.take k).countP f := by
 rw [List.take_add_one, h]; simp [hf]
set_option maxRecDepth 100000 in
set_option maxHeartbeats 4000000 in
theorem rword_any (bv sv : Value) (b : Book) (s : Shell) (w : World) (hb : BookAt w bv b) (hB : BookB b) (hs : ShellAt w sv s) (hS : ShellB s) :
  Calls Tryz.prog 31 #[bv, sv] w fun e w' => e = .returned (.int .i64 (wordOf b ((originsOf b s.rings.length).filter (couldOne b s)))) ∧ Ext w w' := by
 have HRC := Lib.hid (fun w1 (h : Ext w w1) => rcould_any bv sv b s w1 (hb.ext h) hB (hs.ext h) hS)
 have HCL := Lib.hid (fun (r y : Nat) w1 (h : Ext w w1) (hr : r < b.rivers.length) (hy : (y : Int) < b.years) => rclosed_any bv b r y w1 (hb.ext h) hB hr hy)
 have HMEM := Lib.hid (fun o (h : o ∈ (originsOf b s.rings.length).filter (couldOne b s)) => originsOf_mem hB hS.n1 (List.mem_filter.1 h).1)
 have HLE := Lib.hid (Nat.le_trans (List.length_filter_le (couldOne b s) _) (org_len (n := s.rings.length) hB hS.n1))
 obtain ⟨ra, rc, rfl, _⟩ := hb.slice
 obtain ⟨gv, rfl, hgi⟩ := hs
 obtain ⟨ga, gc, rfl, _⟩ := hgi.open
 obtain ⟨W0, hW0⟩ : ∃ W0, W0 = ((w.alloc (.cells #[.int .i64 b.years, .slice ra b.rivers.length rc] 24)).alloc (.cells #[.slice ga s.rings.length gc, .int .i64 s.off] 31)) := ⟨_, rfl⟩
 have HX0 := Lib.hid (show Ext w W0 by rw [hW0]; exact ((Ext.refl w).alloc _).alloc _)
 have HS := Lib.hid (fun W (h : Ext W0 W) => (⟨h.cell (by rw [hW0]; go_simp), h.cell (by rw [hW0]; go_simp), h.cell (by rw [hW0]; go_simp), h.cell (by rw [hW0]; go_simp)⟩ : W.cell? ⟨w.heap.size, 0, none⟩ = some (.int .i64 b.years) ∧ W.cell? ⟨w.heap.size, 1, none⟩ = some (.slice ra b.rivers.length rc) ∧ W.cell? ⟨w.heap.size + 1, 0, none⟩ = some (.slice ga s.rings.length gc) ∧ W.cell? ⟨w.heap.size + 1, 1, none⟩ = some (.int .i64 s.off)))
 generalize hL : (originsOf b s.rings.length).filter (couldOne b s) = L at HRC HLE HMEM ⊢
 clear hb hgi hL hB hS
 go_enter Tryz.func31, Tryz.ntmps31
 go_upto_region 1 with fail
 rw [← hW0]
 clear hW0
 obtain ⟨b0, b1, b2, b3⟩ := HS.out W0 (Ext.refl _)
 go_wp2_with (go_at_call 30; refine (HRC.out _ HX0.out).mono ?_; rintro e w1 ⟨u1, rfl, hp1, hx1⟩; obtain ⟨la, lc, rfl, l1, l2, l3⟩ := hp1.open; clear b0 b1 b2 b3)
 have H3 := Lib.hid l3
 have HX1 := Lib.hid hx1
 clear l3 hp1 hx1
 go_loopw [6, 7] (fun o i wr => ∃ (k n : Nat), k ≤ L.length ∧ i = .int .i64 k ∧ o = .int .i64 n ∧ Hid (n = (L.take k).countP (closedB b)) ∧ Ext w1 wr) (fun _ i _ => L.length - (intOf i).toNat)
 case atStart => exact ⟨0, 0, Nat.zero_le _, rfl, rfl, by simp [Hid], Ext.refl _⟩
 case round =>
  obtain ⟨k, n, hk, rfl, rfl, hn, hx⟩ := hrel
  have HX := Lib.hid hx
  have hnk : n ≤ L.length := by
   have h1 := List.countP_le_length (p := closedB b) (l := L.take k)
   rw [List.length_take] at h1
   have := hn.out
   omega
  have hle := HLE.out
  by_cases hlt : k < L.length
  ·obtain ⟨lb, lo, o, rfl, hok, c0, c1⟩ := H3.out k hlt
   obtain ⟨r, y, rfl, h1, h2, _⟩ := HMEM.out o (List.mem_of_getElem? hok.out)
   have x1 : decide ((k : Int) < (L.length : Int)) = true := by simpa using hlt
   have i1 : (0 : Int) ≤ (k : Int) := by omega
   have i2 : (k : Int) < (L.length : Int) := by omega
   have HF := Lib.hid (fun W (h : Ext wr W) => (⟨(HS.out W ((HX1.out.trans hx).trans h)).1, (HS.out W ((HX1.out.trans hx).trans h)).2.1, (hx.trans h).cell c0, (hx.trans h).cell c1⟩ : W.cell? ⟨w.heap.size, 0, none⟩ = some (.int .i64 b.years) ∧ W.cell? ⟨w.heap.size, 1, none⟩ = some (.slice ra b.rivers.length rc) ∧ W.cell? ⟨lb, lo + k * 2, none⟩ = some (.int .i64 (r : Int)) ∧ W.cell? ⟨lb, lo + k * 2 + 1, none⟩ = some (.int .i64 (y : Int))))
   have HCW := Lib.hid (fun W (h : Ext wr W) => HCL.out r y W ((HX0.out.trans (HX1.out.trans hx)).trans h) h1 h2)
   clear hx c0 c1
   cases hc : closedB b ((r : Int), (y : Int)) with
   | true =>
    rw [hc] at HCW
    have HFI := Lib.hid (countP_yes (f := closedB b) hok.out hc)
    clear hc
    go_upto_region 6 with fail
    refine region_reads (C := fun W => Ext wr W) (by kernel_rfl) (by kernel_rfl) ((Ext.refl wr).drew) ?_
    repeat (first | go_big_quiet_skip | (go_big_quiet_want; go_big_quiet_op; first | go_big_quiet_on | (refine ⟨_, fun W hW => rfl, ?_⟩; go_big_quiet_on)) | (go_big_quiet_want; refine ⟨?_, fun W hW => ?_, ?_⟩; rotate_left; (· (obtain ⟨z0, z1, z2, z3⟩ := HF.out W hW); go_simp; (first | with_reducible rfl | (go_at_call 42; refine (HCW.out W hW).mono ?_; rintro e w' ⟨rfl, hx1⟩; constructor; with_reducible rfl; exact hW.trans hx1))); (try simp only [Act.put, yA, yB, yC]); go_big_quiet_on))
    refine wpQuiet_nil ?_
    intro wq hq
    go_wp2
    refine ⟨⟨k + 1, n + 1, by omega, by go_num, by go_num, ?_, HX.out.trans hq⟩, by simp [intOf]; omega⟩
    unfold Hid
    rw [HFI.out, hn.out]
   | false =>
    rw [hc] at HCW
    have HFI := Lib.hid (countP_no (f := closedB b) hok.out hc)
    clear hc
    go_upto_region 6 with fail
    refine region_reads (C := fun W => Ext wr W) (by kernel_rfl) (by kernel_rfl) ((Ext.refl wr).drew) ?_
    repeat (first | go_big_quiet_skip | (go_big_quiet_want; go_big_quiet_op; first | go_big_quiet_on | (refine ⟨_, fun W hW => rfl, ?_⟩; go_big_quiet_on)) | (go_big_quiet_want; refine ⟨?_, fun W hW => ?_, ?_⟩; rotate_left; (· (obtain ⟨z0, z1, z2, z3⟩ := HF.out W hW); go_simp; (first | with_reducible rfl | (go_at_call 42; refine (HCW.out W hW).mono ?_; rintro e w' ⟨rfl, hx1⟩; constructor; with_reducible rfl; exact hW.trans hx1))); (try simp only [Act.put, yA, yB, yC]); go_big_quiet_on))
    refine wpQuiet_nil ?_
    intro wq hq
    go_wp2
    refine ⟨⟨k + 1, n, by omega, by go_num, rfl, ?_, HX.out.trans hq⟩, by simp [intOf]; omega⟩
    unfold Hid
    rw [HFI.out, hn.out]
  ·have x1 : decide ((k : Int) < (L.length : Int)) = false := by simp; omega
   have hn2 := hn.out
   rw [List.take_of_length_le (show L.length ≤ k by omega)] at hn2
   by_cases h0 : n = 0
   ·have t1 : ((n : Int) == 0) = true := by rw [h0]; rfl
    have HW : Hid (wordOf b L = 1) := by unfold Hid wordOf; rw [← hn2, if_pos h0]
    clear hn2 h0
    go_wp2
    go_ret
    exact ⟨by rw [HW.out] <;> rfl, HX0.out.trans (HX1.out.trans hx)⟩
   ·have t1 : ((n : Int) == 0) = false := by rw [beq_eq_false_iff_ne]; omega
    by_cases h1 : n = L.length
    ·have t2 : ((n : Int) == (L.length : Int)) = true := by rw [beq_iff_eq]; omega
     have HW : Hid (wordOf b L = 3) := by unfold Hid wordOf; rw [← hn2, if_neg h0, if_pos h1]
     clear hn2 h0 h1
     go_wp2
     go_ret
     exact ⟨by rw [HW.out] <;> rfl, HX0.out.trans (HX1.out.trans hx)⟩
    ·have t2 : ((n : Int) == (L.length : Int)) = false := by rw [beq_eq_false_iff_ne]; omega
     have HW : Hid (wordOf b L = 2) := by unfold Hid wordOf; rw [← hn2, if_neg h0, if_neg h1]
     clear hn2 h0 h1
     go_wp2
     go_ret
     exact ⟨by rw [HW.out] <;> rfl, HX0.out.trans (HX1.out.trans hx)⟩
end Go.Proofs.YtnhpibnneidmgaaGreatDoor
