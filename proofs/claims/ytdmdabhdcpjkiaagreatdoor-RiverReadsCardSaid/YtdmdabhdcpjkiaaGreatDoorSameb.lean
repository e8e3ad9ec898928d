/- The reference's SameSpans, SameBook at equal ones. -/
import Derived.Test.YtdmdabhdcpjkiaaGreatDoorLaw
import Derived.Test.YtdmdabhdcpjkiaaGreatDoorReads
namespace Go.Proofs.YtdmdabhdcpjkiaaGreatDoor
open Go.RowKit
set_option maxRecDepth 100000 in
set_option maxHeartbeats 1000000 in
theorem sameS_yes (va vb : Value) (xs : List (Int × Int)) (w : World) (ha : PairsAt w va xs) (hb : PairsAt w vb xs) :
  Calls Tryz.prog 60 #[va, vb] w fun e w' => e = .returned (.bool true) ∧ Ext w w' := by
 obtain ⟨a, c, rfl, h1, h2, h3⟩ := ha.open
 obtain ⟨a', c', rfl, h1', h2', h3'⟩ := hb.open
 have hmix : Tryz.prog.follows .mixedOrders = true := by kernel_rfl
 have hsg := span_guard
 have hsn := span_neq
 have t1 : ((xs.length : Int) != (xs.length : Int)) = false := by simp
 have H3 := Lib.hid h3
 have H3' := Lib.hid h3'
 clear h3 h3' ha hb
 go_enter Tryz.func60, Tryz.ntmps60
 go_wp2
 go_loopw [5] (fun i wr => ∃ k : Nat, k ≤ xs.length ∧ i = .int .i64 k ∧ Ext w wr) (fun i _ => xs.length - (intOf i).toNat)
 case atStart => exact ⟨0, Nat.zero_le _, rfl, Ext.refl _⟩
 case round =>
  obtain ⟨k, hk, rfl, hx⟩ := hrel
  by_cases hlt : k < xs.length
  ·obtain ⟨b, o, x, rfl, hxk, hc, hd⟩ := H3.out k hlt
   obtain ⟨b', o', y, rfl, hyk, hc', hd'⟩ := H3'.out k hlt
   have hxy : y = x := by have := hyk.out; rw [hxk.out] at this; exact (Option.some.inj this).symm
   subst hxy
   have d0 := hx.cell hc
   have d1 := hx.cell hc'
   have d2 := hx.cell hd
   have d3 := hx.cell hd'
   have x2 : decide ((k : Int) < (xs.length : Int)) = true := by simpa using hlt
   obtain ⟨x1, x2'⟩ := y
   simp only at d0 d1 d2 d3
   clear hc hc' hd hd'
   go_wp2
   go_quiet (fail)
   go_wp2
   exact ⟨⟨k + 1, by omega, by go_num, hx.drewN _⟩, by simp [intOf]; omega⟩
  ·have x2 : decide ((k : Int) < (xs.length : Int)) = false := by simp; omega
   go_wp2
   go_ret
   exact ⟨rfl, hx⟩
set_option maxRecDepth 100000 in
set_option maxHeartbeats 4000000 in
theorem sameB_yes (va vb : Value) (b : Book) (w : World) (ha : BookAt w va b) (hb : BookAt w vb b) :
  Calls Tryz.prog 28 #[va, vb] w fun e w' => e = .returned (.bool true) ∧ Ext w w' := by
 obtain ⟨rv, rfl, hr⟩ := ha
 obtain ⟨sv, rfl, hs⟩ := hb
 obtain ⟨a, c, rfl, h1, h2, h3⟩ := hr.open
 obtain ⟨a', c', rfl, h1', h2', h3'⟩ := hs.open
 have hmix : Tryz.prog.follows .mixedOrders = true := by kernel_rfl
 obtain ⟨W0, hW0⟩ : ∃ W0, W0 = (w.alloc (.cells #[.int .i64 b.years, .slice a b.rivers.length c] 24)).alloc (.cells #[.int .i64 b.years, .slice a' b.rivers.length c'] 24) := ⟨_, rfl⟩
 have HX0 := Lib.hid (show Ext w W0 by rw [hW0]; exact ((Ext.refl w).alloc _).alloc _)
 have HC := Lib.hid (fun W (h : Ext W0 W) => (⟨h.cell (by rw [hW0]; go_simp), h.cell (by rw [hW0]; go_simp), h.cell (by rw [hW0]; go_simp), h.cell (by rw [hW0]; go_simp)⟩ :
  W.cell? ⟨w.heap.size, 0, none⟩ = some (.int .i64 b.years) ∧ W.cell? ⟨w.heap.size, 1, none⟩ = some (.slice a b.rivers.length c) ∧ W.cell? ⟨w.heap.size + 1, 0, none⟩ = some (.int .i64 b.years) ∧ W.cell? ⟨w.heap.size + 1, 1, none⟩ = some (.slice a' b.rivers.length c')))
 have t0 : (b.years != b.years) = false := by simp
 have t1 : ((b.rivers.length : Int) != (b.rivers.length : Int)) = false := by simp
 have H3 := Lib.hid h3
 have H3' := Lib.hid h3'
 clear h3 h3' hr hs
 go_enter Tryz.func28, Tryz.ntmps28
 go_upto_region 1 with fail
 rw [← hW0]
 obtain ⟨z0, z1, z2, z3⟩ := HC.out _ (Ext.refl _)
 clear hW0
 go_wp2
 clear z0 z1 z2 z3
 go_loopw [5] (fun i wr => ∃ k : Nat, k ≤ b.rivers.length ∧ i = .int .i64 k ∧ Ext W0 wr) (fun i _ => b.rivers.length - (intOf i).toNat)
 case atStart => exact ⟨0, Nat.zero_le _, rfl, Ext.refl _⟩
 case round =>
  obtain ⟨k, hk, rfl, hx⟩ := hrel
  obtain ⟨z0, z1, z2, z3⟩ := HC.out _ hx
  by_cases hlt : k < b.rivers.length
  ·obtain ⟨rb, ro, gv, R, rfl, hR, d0, d1, d2, hg⟩ := H3.out k hlt
   obtain ⟨rb', ro', gv', R', rfl, hR', d0', d1', d2', hg'⟩ := H3'.out k hlt
   have hRR : R' = R := by have := hR'.out; rw [hR.out] at this; exact (Option.some.inj this).symm
   subst hRR
   obtain ⟨ga, gc, rfl, _⟩ := hg.open
   obtain ⟨ga', gc', rfl, _⟩ := hg'.open
   have x2 : decide ((k : Int) < (b.rivers.length : Int)) = true := by simpa using hlt
   have i1 : (0 : Int) ≤ (k : Int) := by omega
   have i2 : (k : Int) < (b.rivers.length : Int) := by omega
   have u0 : (R'.vary != R'.vary) = false := by simp
   have u1 : (R'.closed != R'.closed) = false := by simp
   have HSS := Lib.hid (fun W (h : Ext wr W) => sameS_yes _ _ R'.grow W (hg.ext ((HX0.out.trans hx).trans h)) (hg'.ext ((HX0.out.trans hx).trans h)))
   have HF := Lib.hid (fun W (h : Ext wr W) => (⟨(HC.out _ (hx.trans h)).2.1, (HC.out _ (hx.trans h)).2.2.2, ((HX0.out.trans hx).trans h).cell d0, ((HX0.out.trans hx).trans h).cell d1, ((HX0.out.trans hx).trans h).cell d2, ((HX0.out.trans hx).trans h).cell d0', ((HX0.out.trans hx).trans h).cell d1', ((HX0.out.trans hx).trans h).cell d2'⟩ :
    W.cell? ⟨w.heap.size, 1, none⟩ = some (.slice (some ⟨rb, ro, none⟩) b.rivers.length c) ∧ W.cell? ⟨w.heap.size + 1, 1, none⟩ = some (.slice (some ⟨rb', ro', none⟩) b.rivers.length c') ∧ W.cell? ⟨rb, ro + k * 3, none⟩ = some (.slice ga R'.grow.length gc) ∧ W.cell? ⟨rb, ro + k * 3 + 1, none⟩ = some (.int .i64 R'.vary) ∧ W.cell? ⟨rb, ro + k * 3 + 2, none⟩ = some (.int .i64 R'.closed) ∧ W.cell? ⟨rb', ro' + k * 3, none⟩ = some (.slice ga' R'.grow.length gc') ∧ W.cell? ⟨rb', ro' + k * 3 + 1, none⟩ = some (.int .i64 R'.vary) ∧ W.cell? ⟨rb', ro' + k * 3 + 2, none⟩ = some (.int .i64 R'.closed)))
   clear d0 d1 d2 d0' d1' d2' hg hg'
   go_upto_region 6 with fail
   refine region_reads (C := fun W => Ext wr W) (by kernel_rfl) (by kernel_rfl) ((Ext.refl wr).drew) ?_
   repeat (first | go_big_quiet_skip | (go_big_quiet_want; go_big_quiet_op; first | go_big_quiet_on | (refine ⟨_, fun W hW => rfl, ?_⟩; go_big_quiet_on)) | (go_big_quiet_want; refine ⟨?_, fun W hW => ?_, ?_⟩; rotate_left; (· (obtain ⟨p0, p1, p2, p3, p4, p5, p6, p7⟩ := HF.out W hW); go_simp; (first | with_reducible rfl | (go_at_call 60; refine (HSS.out W hW).mono ?_; rintro e w' ⟨rfl, hx1⟩; constructor; with_reducible rfl; exact hW.trans hx1))); (try simp only [Act.put, yA, yB, yC]); go_big_quiet_on))
   refine wpQuiet_nil ?_
   intro wq hq
   go_wp2
   exact ⟨⟨k + 1, by omega, by go_num, hx.trans hq⟩, by simp [intOf]; omega⟩
  ·have x2 : decide ((k : Int) < (b.rivers.length : Int)) = false := by simp; omega
   go_wp2
   go_ret
   exact ⟨rfl, HX0.out.trans hx⟩
end Go.Proofs.YtdmdabhdcpjkiaaGreatDoor
