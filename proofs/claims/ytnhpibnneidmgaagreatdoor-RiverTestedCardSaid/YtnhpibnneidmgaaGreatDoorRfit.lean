/- The reference's Origin, told. -/
import Derived.Test.YtnhpibnneidmgaaGreatDoorRefa
import Derived.Test.YtnhpibnneidmgaaGreatDoorStateb
import Derived.Test.YtnhpibnneidmgaaGreatDoorSackr
import Derived.Test.YtnhpibnneidmgaaGreatDoorFitd
namespace Go.Proofs.YtnhpibnneidmgaaGreatDoor
open Go.RowKit
set_option maxRecDepth 100000 in
set_option maxHeartbeats 2000000 in
theorem rclosed_any (v : Value) (b : Book) (r y : Nat) (w : World) (hb : BookAt w v b) (hB : BookB b) (hr : r < b.rivers.length) (hy : (y : Int) < b.years) :
  Calls Tryz.prog 42 #[v, .agg #[.int .i64 (r : Int), .int .i64 (y : Int)]] w fun e w' => e = .returned (.bool (closedB b ((r : Int), (y : Int)))) ∧ Ext w w' := by
 obtain ⟨ra, rc, rfl, hr0⟩ := hb.slice
 obtain ⟨_, _, hvr, r1, r2, r3⟩ := hr0.open
 cases hvr
 obtain ⟨rb, ro, gv, R, rfl, hR, c0, c1, c2, hg⟩ := r3 r hr
 obtain ⟨ga, gc, rfl, _⟩ := hg.open
 have hcl := hB.closed R (List.mem_of_getElem? hR.out)
 have hp : (2 : Int) ^ b.years.toNat ≤ 64 := by
  have h := hB.y1
  have h6 := hB.y2
  rcases (by omega : b.years.toNat = 1 ∨ b.years.toNat = 2 ∨ b.years.toNat = 3 ∨ b.years.toNat = 4 ∨ b.years.toNat = 5 ∨ b.years.toNat = 6) with h | h | h | h | h | h <;> rw [h] <;> decide
 obtain ⟨c, hc⟩ : ∃ c : Nat, R.closed = c := ⟨R.closed.toNat, by omega⟩
 have hcb := closedB_nat (y := y) hR.out hc
 have hc64 : c < 64 := by omega
 have hbt := (has_bits c y (by omega)).trans hcb.symm
 rw [hc] at c2
 have HX0 := Lib.hid (((Ext.refl w).alloc _).alloc _ : Ext w ((w.alloc (.cells #[.int .i64 b.years, .slice (some ⟨rb, ro, none⟩) b.rivers.length rc] 24)).alloc (.cells #[.int .i64 (r : Int), .int .i64 (y : Int)] 50)))
 have d2 := HX0.out.cell c2
 have y6 : (y : Int) < 64 := by have := hB.y2; omega
 have i1 : (0 : Int) ≤ (r : Int) := by omega
 have i2 : (r : Int) < (b.rivers.length : Int) := by omega
 clear hb hr0 r3 c0 c1 c2 hg hcl hp hcb hc hR hB
 go_enter Tryz.func42, Tryz.ntmps42
 go_upto_region 1 with fail
 go_quiet (fail)
 go_wp2
 go_ret
 exact ⟨rfl, HX0.out.drewN _⟩
set_option maxRecDepth 100000 in
set_option maxHeartbeats 2000000 in
theorem rorigin_any (v : Value) (b : Book) (o : Org) (n : Nat) (w : World) (hb : BookAt w v b) (h1 : 1 ≤ b.years) (h2 : b.years ≤ 6) (hn : n ≤ 1000) :
  Calls Tryz.prog 41 #[v, .agg #[.int .i64 o.1, .int .i64 o.2], .int .i64 n] w fun e w' => e = .returned (.bool (originB b o n)) ∧ Ext w w' := by
 have HR := Lib.hid (fun w1 (h : Ext w w1) => rriver_any v b o.1 w1 (hb.ext h))
 have HY := Lib.hid (fun w1 (h : Ext w w1) => ryear_any v b o.2 w1 (hb.ext h) h1 h2)
 obtain ⟨ra, rc, rfl, _⟩ := hb.slice
 have HX0 := Lib.hid (((Ext.refl w).alloc _).alloc _ : Ext w ((w.alloc (.cells #[.int .i64 b.years, .slice ra b.rivers.length rc] 24)).alloc (.cells #[.int .i64 o.1, .int .i64 o.2] 50)))
 have HS := Lib.hid (fun W (h : Ext ((w.alloc (.cells #[.int .i64 b.years, .slice ra b.rivers.length rc] 24)).alloc (.cells #[.int .i64 o.1, .int .i64 o.2] 50)) W) => (⟨h.cell (by go_simp), h.cell (by go_simp), h.cell (by go_simp), h.cell (by go_simp)⟩ :
  W.cell? ⟨w.heap.size, 0, none⟩ = some (.int .i64 b.years) ∧ W.cell? ⟨w.heap.size, 1, none⟩ = some (.slice ra b.rivers.length rc) ∧ W.cell? ⟨w.heap.size + 1, 0, none⟩ = some (.int .i64 o.1) ∧ W.cell? ⟨w.heap.size + 1, 1, none⟩ = some (.int .i64 o.2)))
 clear hb
 cases hr : isRiverB b o.1 with
 | false =>
  have HN : Hid (originB b o n = false) := by unfold Hid originB; rw [hr]; rfl
  rw [hr] at HR
  clear hr
  go_enter Tryz.func41, Tryz.ntmps41
  go_wp2_with (go_at_call 88; refine (HR.out _ HX0.out).mono ?_; rintro e w1 ⟨rfl, hx1⟩)
  go_ret
  exact ⟨by rw [HN.out] <;> rfl, HX0.out.trans hx1⟩
 | true =>
  rw [hr] at HR
  cases hy : isYearB b o.2 with
  | false =>
   have HN : Hid (originB b o n = false) := by unfold Hid originB; rw [hy]; simp
   rw [hy] at HY
   clear hr hy
   go_enter Tryz.func41, Tryz.ntmps41
   go_wp2_with (first | (go_at_call 88; refine (HR.out _ HX0.out).mono ?_; rintro e w1 ⟨rfl, hx1⟩; obtain ⟨z0, z1, z2, z3⟩ := HS.out _ hx1) | (go_at_call 89; refine (HY.out _ (HX0.out.trans hx1)).mono ?_; rintro e w2 ⟨rfl, hx2⟩))
   go_ret
   exact ⟨by rw [HN.out] <;> rfl, (HX0.out.trans hx1).trans hx2⟩
  | true =>
   have hyr : 0 ≤ o.2 ∧ o.2 ≤ 5 := by unfold isYearB at hy; rw [inB_iff] at hy; omega
   have HN : Hid (originB b o n = decide (0 ≤ o.2 - n + 1)) := by unfold Hid originB; rw [hr, hy]; rfl
   rw [hy] at HY
   obtain ⟨p, q⟩ := o
   simp only at *
   obtain ⟨y1, y2⟩ := hyr
   clear hr hy
   go_enter Tryz.func41, Tryz.ntmps41
   go_wp2_with (first | (go_at_call 88; refine (HR.out _ HX0.out).mono ?_; rintro e w1 ⟨rfl, hx1⟩; obtain ⟨z0, z1, z2, z3⟩ := HS.out _ hx1) | (go_at_call 89; refine (HY.out _ (HX0.out.trans hx1)).mono ?_; rintro e w2 ⟨rfl, hx2⟩; clear z0 z1 z2 z3; obtain ⟨z0, z1, z2, z3⟩ := HS.out _ (hx1.trans hx2)))
   go_ret
   exact ⟨by rw [HN.out] <;> rfl, (HX0.out.trans hx1).trans hx2⟩
theorem tested_step {b : Book} {ts : List (Int × Bool)} {i : Nat} {o : Org} {k : Nat} {t : Int × Bool} (h : (ts.take k).any (fun t => decide (t.1 = (i : Int)) && (t.2 != closedB b o)) = false) (ht : ts[k]? = some t) (hq : (decide (t.1 = (i : Int)) && (t.2 != closedB b o)) = false) :
  (ts.take (k + 1)).any (fun t => decide (t.1 = (i : Int)) && (t.2 != closedB b o)) = false := by rw [any_take_succ _ ht, h, hq]; rfl
theorem tested_bad {b : Book} {ts : List (Int × Bool)} {i : Nat} {o : Org} {k : Nat} {t : Int × Bool} (ht : ts[k]? = some t) (hq : (decide (t.1 = (i : Int)) && (t.2 != closedB b o)) = true) : testedB b ts i o = false := by
 unfold testedB; rw [any_of_at (fun t => decide (t.1 = (i : Int)) && (t.2 != closedB b o)) ht hq]; rfl
set_option maxRecDepth 100000 in
set_option maxHeartbeats 4000000 in
theorem rtold_any (bv sv : Value) (b : Book) (s : Sack) (i r y : Nat) (w : World) (hb : BookAt w bv b) (hB : BookB b) (hs : SackAt w sv s) (hr : r < b.rivers.length) (hy : (y : Int) < b.years) :
  Calls Tryz.prog 87 #[bv, sv, .int .i64 (i : Int), .agg #[.int .i64 (r : Int), .int .i64 (y : Int)]] w fun e w' => e = .returned (.bool (testedB b s.tests i ((r : Int), (y : Int)))) ∧ Ext w w' := by
 have HC := Lib.hid (fun w1 (h : Ext w w1) => rclosed_any bv b r y w1 (hb.ext h) hB hr hy)
 obtain ⟨ra, rc, rfl, _⟩ := hb.slice
 obtain ⟨sa, sc, ta, tc, rfl, _, hte⟩ := hs.slice
 obtain ⟨_, _, hv, m1, m2, h4⟩ := RowOf.open2 (f := testC) (f0 := fun t => .int .i64 t.1) (f1 := fun t => .bool t.2) (fun _ => rfl) hte
 cases hv
 have HT := Lib.hid h4
 obtain ⟨W0, hW0⟩ : ∃ W0, W0 = ((w.alloc (.cells #[.int .i64 b.years, .slice ra b.rivers.length rc] 24)).alloc (.cells #[.slice sa s.shells.length sc, .slice ta s.tests.length tc] 28)).alloc (.cells #[.int .i64 (r : Int), .int .i64 (y : Int)] 50) := ⟨_, rfl⟩
 have HX0 := Lib.hid (show Ext w W0 by rw [hW0]; exact (((Ext.refl w).alloc _).alloc _).alloc _)
 have HS := Lib.hid (fun W (h : Ext W0 W) => (⟨h.cell (by rw [hW0]; go_simp), h.cell (by rw [hW0]; go_simp), h.cell (by rw [hW0]; go_simp), h.cell (by rw [hW0]; go_simp), h.cell (by rw [hW0]; go_simp)⟩ :
  W.cell? ⟨w.heap.size, 0, none⟩ = some (.int .i64 b.years) ∧ W.cell? ⟨w.heap.size, 1, none⟩ = some (.slice ra b.rivers.length rc) ∧ W.cell? ⟨w.heap.size + 1, 1, none⟩ = some (.slice ta s.tests.length tc) ∧ W.cell? ⟨w.heap.size + 2, 0, none⟩ = some (.int .i64 (r : Int)) ∧ W.cell? ⟨w.heap.size + 2, 1, none⟩ = some (.int .i64 (y : Int))))
 clear hb hs hte h4 hB hr hy
 go_enter Tryz.func87, Tryz.ntmps87
 go_upto_region 1 with fail
 rw [← hW0]
 clear hW0
 go_wp2
 go_loopw [9] (fun j wr => ∃ k : Nat, k ≤ s.tests.length ∧ j = .int .i64 k ∧ Hid ((s.tests.take k).any (fun t => decide (t.1 = (i : Int)) && (t.2 != closedB b ((r : Int), (y : Int)))) = false) ∧ Ext W0 wr) (fun j _ => s.tests.length - (intOf j).toNat)
 case atStart => exact ⟨0, Nat.zero_le _, rfl, by simp [Hid], Ext.refl _⟩
 case round =>
  obtain ⟨k, hk, rfl, hno, hx⟩ := hrel
  obtain ⟨z0, z1, z2, z3, z4⟩ := HS.out _ hx
  by_cases hlt : k < s.tests.length
  ·obtain ⟨tb, tf, t, rfl, hxk, c0, c1⟩ := HT.out k hlt
   have x2 : decide ((k : Int) < (s.tests.length : Int)) = true := by simpa using hlt
   have i1 : (0 : Int) ≤ (k : Int) := by omega
   have i2 : (k : Int) < (s.tests.length : Int) := by omega
   obtain ⟨tn, tc2⟩ := t
   simp only at c0 c1
   have HF := Lib.hid (fun W (h : Ext wr W) => (⟨HS.out W (hx.trans h), (HX0.out.trans (hx.trans h)).cell c0, (HX0.out.trans (hx.trans h)).cell c1⟩ : _ ∧ _ ∧ _))
   have HCW := Lib.hid (fun W (h : Ext wr W) => HC.out W (HX0.out.trans (hx.trans h)))
   clear c0 c1
   by_cases he : tn = (i : Int)
   ·have t1 : (tn == (i : Int)) = true := by rw [beq_iff_eq]; exact he
    cases hcb : closedB b ((r : Int), (y : Int)) with
    | true =>
     rw [hcb] at HCW
     cases tc2 with
     | true =>
      have HN : Hid ((s.tests.take (k + 1)).any (fun t => decide (t.1 = (i : Int)) && (t.2 != true)) = false) := by have h := tested_step hno.out hxk.out (by rw [hcb]; simp); rw [hcb] at h; exact h
      clear he hcb
      go_upto_region 4 with fail
      refine region_reads (C := fun W => Ext wr W) (by kernel_rfl) (by kernel_rfl) ((Ext.refl wr).drew) ?_
      repeat (first | go_big_quiet_skip | (go_big_quiet_want; go_big_quiet_op; first | go_big_quiet_on | (refine ⟨_, fun W hW => rfl, ?_⟩; go_big_quiet_on)) | (go_big_quiet_want; refine ⟨?_, fun W hW => ?_, ?_⟩; rotate_left; (· (obtain ⟨⟨z0, z1, z2, z3, z4⟩, y0, y1⟩ := HF.out W hW); go_simp; (first | with_reducible rfl | (go_at_call 42; refine (HCW.out W hW).mono ?_; rintro e w' ⟨rfl, hx1⟩; constructor; with_reducible rfl; exact hW.trans hx1))); (try simp only [Act.put, yA, yB, yC]); go_big_quiet_on))
      refine wpQuiet_nil ?_
      intro wq hq
      go_wp2
      go_roundw
      case rel => exact ⟨k + 1, by omega, by go_num, HN, hx.trans hq⟩
      case measure => simp [intOf]; omega
     | false =>
      have HN := Lib.hid (tested_bad hxk.out (by rw [decide_eq_true he, hcb]; rfl))
      clear he hcb
      go_upto_region 4 with fail
      refine region_reads (C := fun W => Ext wr W) (by kernel_rfl) (by kernel_rfl) ((Ext.refl wr).drew) ?_
      repeat (first | go_big_quiet_skip | (go_big_quiet_want; go_big_quiet_op; first | go_big_quiet_on | (refine ⟨_, fun W hW => rfl, ?_⟩; go_big_quiet_on)) | (go_big_quiet_want; refine ⟨?_, fun W hW => ?_, ?_⟩; rotate_left; (· (obtain ⟨⟨z0, z1, z2, z3, z4⟩, y0, y1⟩ := HF.out W hW); go_simp; (first | with_reducible rfl | (go_at_call 42; refine (HCW.out W hW).mono ?_; rintro e w' ⟨rfl, hx1⟩; constructor; with_reducible rfl; exact hW.trans hx1))); (try simp only [Act.put, yA, yB, yC]); go_big_quiet_on))
      refine wpQuiet_nil ?_
      intro wq hq
      go_wp2
      go_ret
      exact ⟨by rw [HN.out] <;> rfl, HX0.out.trans (hx.trans hq)⟩
    | false =>
     rw [hcb] at HCW
     cases tc2 with
     | true =>
      have HN := Lib.hid (tested_bad hxk.out (by rw [decide_eq_true he, hcb]; rfl))
      clear he hcb
      go_upto_region 4 with fail
      refine region_reads (C := fun W => Ext wr W) (by kernel_rfl) (by kernel_rfl) ((Ext.refl wr).drew) ?_
      repeat (first | go_big_quiet_skip | (go_big_quiet_want; go_big_quiet_op; first | go_big_quiet_on | (refine ⟨_, fun W hW => rfl, ?_⟩; go_big_quiet_on)) | (go_big_quiet_want; refine ⟨?_, fun W hW => ?_, ?_⟩; rotate_left; (· (obtain ⟨⟨z0, z1, z2, z3, z4⟩, y0, y1⟩ := HF.out W hW); go_simp; (first | with_reducible rfl | (go_at_call 42; refine (HCW.out W hW).mono ?_; rintro e w' ⟨rfl, hx1⟩; constructor; with_reducible rfl; exact hW.trans hx1))); (try simp only [Act.put, yA, yB, yC]); go_big_quiet_on))
      refine wpQuiet_nil ?_
      intro wq hq
      go_wp2
      go_ret
      exact ⟨by rw [HN.out] <;> rfl, HX0.out.trans (hx.trans hq)⟩
     | false =>
      have HN : Hid ((s.tests.take (k + 1)).any (fun t => decide (t.1 = (i : Int)) && (t.2 != false)) = false) := by have h := tested_step hno.out hxk.out (by rw [hcb]; simp); rw [hcb] at h; exact h
      clear he hcb
      go_upto_region 4 with fail
      refine region_reads (C := fun W => Ext wr W) (by kernel_rfl) (by kernel_rfl) ((Ext.refl wr).drew) ?_
      repeat (first | go_big_quiet_skip | (go_big_quiet_want; go_big_quiet_op; first | go_big_quiet_on | (refine ⟨_, fun W hW => rfl, ?_⟩; go_big_quiet_on)) | (go_big_quiet_want; refine ⟨?_, fun W hW => ?_, ?_⟩; rotate_left; (· (obtain ⟨⟨z0, z1, z2, z3, z4⟩, y0, y1⟩ := HF.out W hW); go_simp; (first | with_reducible rfl | (go_at_call 42; refine (HCW.out W hW).mono ?_; rintro e w' ⟨rfl, hx1⟩; constructor; with_reducible rfl; exact hW.trans hx1))); (try simp only [Act.put, yA, yB, yC]); go_big_quiet_on))
      refine wpQuiet_nil ?_
      intro wq hq
      go_wp2
      go_roundw
      case rel => exact ⟨k + 1, by omega, by go_num, HN, hx.trans hq⟩
      case measure => simp [intOf]; omega
   ·have t1 : (tn == (i : Int)) = false := by rw [beq_eq_false_iff_ne]; exact he
    have HN : Hid ((s.tests.take (k + 1)).any (fun t => decide (t.1 = (i : Int)) && (t.2 != closedB b ((r : Int), (y : Int)))) = false) := tested_step hno.out hxk.out (by rw [decide_eq_false he]; rfl)
    clear he
    go_upto_region 4 with fail
    refine region_reads (C := fun W => Ext wr W) (by kernel_rfl) (by kernel_rfl) ((Ext.refl wr).drew) ?_
    repeat (first | go_big_quiet_skip | (go_big_quiet_want; go_big_quiet_op; first | go_big_quiet_on | (refine ⟨_, fun W hW => rfl, ?_⟩; go_big_quiet_on)) | (go_big_quiet_want; refine ⟨?_, fun W hW => ?_, ?_⟩; rotate_left; (· (obtain ⟨⟨z0, z1, z2, z3, z4⟩, y0, y1⟩ := HF.out W hW); go_simp; (first | with_reducible rfl | (go_at_call 42; refine (HCW.out W hW).mono ?_; rintro e w' ⟨rfl, hx1⟩; constructor; with_reducible rfl; exact hW.trans hx1))); (try simp only [Act.put, yA, yB, yC]); go_big_quiet_on))
    refine wpQuiet_nil ?_
    intro wq hq
    go_wp2
    go_roundw
    case rel => exact ⟨k + 1, by omega, by go_num, HN, hx.trans hq⟩
    case measure => simp [intOf]; omega
  ·have x2 : decide ((k : Int) < (s.tests.length : Int)) = false := by simp; omega
   have HN : Hid (testedB b s.tests i ((r : Int), (y : Int)) = true) := by
    have h := hno.out
    rw [List.take_of_length_le (by omega)] at h
    unfold Hid testedB; rw [h]; rfl
   go_wp2
   go_ret
   exact ⟨by rw [HN.out] <;> rfl, HX0.out.trans hx⟩
end Go.Proofs.YtnhpibnneidmgaaGreatDoor
