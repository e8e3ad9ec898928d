/- The reference's Length, Ripe. -/
import Derived.Test.YtabkfohbdfpdpaaGreatDoorLen
import Derived.Test.YtabkfohbdfpdpaaGreatDoorHeld
namespace Go.Proofs.YtabkfohbdfpdpaaGreatDoor
open Go.RowKit

set_option maxRecDepth 100000 in
set_option maxHeartbeats 4000000 in
theorem rlength_any (v : Value) (b : Book) (r y z : Nat) (w : World) (hb : BookAt w v b) (hB : BookB b) (h2 : r < b.rivers.length) (h4 : (z : Int) < b.years) (h5 : y ≤ z) :
    Calls Tryz.prog 25 #[v, .int .i64 r, .int .i64 y, .int .i64 z] w fun e w' => e = .returned (.agg #[.int .i64 (lengthOf b r y z).1, .int .i64 (lengthOf b r y z).2]) ∧ Ext w w' := by
  obtain ⟨rv, rfl, hr⟩ := hb
  obtain ⟨ra, rc, rfl, r1, r2, r3⟩ := hr.open
  obtain ⟨rb, ro, gv, R, rfl, hR, d0, d1, d2, hg⟩ := r3 r h2
  obtain ⟨ga, gc, rfl, g1, g2, g3⟩ := hg.open
  have hx0 : Ext w (w.alloc (.cells #[.int .i64 b.years, .slice (some ⟨rb, ro, none⟩) b.rivers.length rc] 24)) := (Ext.refl w).alloc _
  have i1 : (0 : Int) ≤ (r : Int) := by omega
  have i2 : (r : Int) < (b.rivers.length : Int) := by omega
  have hgl := hB.len R (List.mem_of_getElem? hR.out)
  have hx1 : Ext w ((w.alloc (.cells #[.int .i64 b.years, .slice (some ⟨rb, ro, none⟩) b.rivers.length rc] 24)).alloc (.cells #[.int .i64 0, .int .i64 0] 47)) := hx0.alloc _
  have e0 := hx1.cell d0
  have e1 := hx1.cell d1
  have e2 := hx1.cell d2
  obtain ⟨W, hW⟩ : ∃ W, W = (((w.alloc (.cells #[.int .i64 b.years, .slice (some ⟨rb, ro, none⟩) b.rivers.length rc] 24)).alloc (.cells #[.int .i64 0, .int .i64 0] 47)).alloc (.cells #[.slice ga R.grow.length gc, .int .i64 R.vary, .int .i64 R.closed] 43)) := ⟨_, rfl⟩
  have hxW : Ext w W := by rw [hW]; exact hx1.alloc _
  have hzW : W.heap.size = w.heap.size + 3 := by rw [hW]; simp
  have HD := Lib.hid (fun A (h : Ext W A) => (⟨h.cell (by rw [hW]; go_simp), h.cell (by rw [hW]; go_simp), h.cell (by rw [hW]; go_simp), h.cell (by rw [hW]; go_simp), (h.frozen (a := ⟨w.heap.size + 1, 0, none⟩) (by rw [hW]; simp)).trans (by rw [hW]; go_simp), (h.frozen (a := ⟨w.heap.size + 1, 1, none⟩) (by rw [hW]; simp)).trans (by rw [hW]; go_simp)⟩ :
    A.cell? ⟨w.heap.size + 2, 0, none⟩ = some (.slice ga R.grow.length gc) ∧ A.cell? ⟨w.heap.size + 2, 1, none⟩ = some (.int .i64 R.vary) ∧ A.cell? ⟨w.heap.size + 1, 0, none⟩ = some (.int .i64 0) ∧ A.cell? ⟨w.heap.size + 1, 1, none⟩ = some (.int .i64 0) ∧ A.frozen? ⟨w.heap.size + 1, 0, none⟩ = false ∧ A.frozen? ⟨w.heap.size + 1, 1, none⟩ = false))
  have HG := Lib.hid g3
  have HXW := Lib.hid hxW
  have HGL := Lib.hid hgl
  have hmix : Tryz.prog.follows .mixedOrders = true := by kernel_rfl
  clear g3 hr r3 hg d0 d1 d2 hx0 hx1 hgl
  go_enter Tryz.func25, Tryz.ntmps25
  go_upto_region 2 with fail
  rw [← hW]
  clear e0 e1 e2
  have hL0 : LenW W (W.alloc (.cells #[.int .i64 0, .int .i64 0] 47)) 0 0 := ⟨(Ext.refl _).alloc _, by go_simp, by go_simp, by go_simp, by go_simp⟩
  have HZ := Lib.hid hzW
  clear hW hzW
  go_wp2
  go_loopw [11] (fun t wi => ∃ p : Nat, y ≤ p ∧ p ≤ z + 1 ∧ t = .int .i64 p ∧ LenW W wi (sumFrom (leastOf b r) y (p - y)) (sumFrom (greatestOf b r) y (p - y))) (fun t _ => z + 1 - (intOf t).toNat)
  case atStart => exact ⟨y, Nat.le_refl _, by omega, rfl, by rw [Nat.sub_self]; exact hL0⟩
  case round =>
    obtain ⟨p, hyp, hpz, rfl, hl⟩ := hrel
    by_cases hlt : p ≤ z
    · obtain ⟨j, hj⟩ : ∃ j, p = y + j := ⟨p - y, by omega⟩
      obtain ⟨s, hs, hs1, hv, f0, f1, _⟩ := year_range hB hR.out (y := p) (by omega)
      have hsb := sumFrom_bound (f := leastOf b r) (y := y) (c := 43) j (fun k hk => by
        obtain ⟨_, _, _, _, _, _, q1, q2, q3, q4⟩ := year_range hB hR.out (y := y + k) (by omega)
        rw [Int.natCast_add] at q1 q2 q3 q4
        exact ⟨q1, q2⟩)
      have hsc := sumFrom_bound (f := greatestOf b r) (y := y) (c := 43) j (fun k hk => by
        obtain ⟨_, _, _, _, _, _, q1, q2, q3, q4⟩ := year_range hB hR.out (y := y + k) (by omega)
        rw [Int.natCast_add] at q1 q2 q3 q4
        exact ⟨q3, q4⟩)
      have hyj : ((y : Int) + (j : Int)) = (p : Int) := by omega
      have h0 : sumFrom (leastOf b r) y (p + 1 - y) = sumFrom (leastOf b r) y j + max 0 (s.1 - R.vary) := by rw [show p + 1 - y = j + 1 by omega]; simp only [sumFrom]; rw [hyj, f0]
      have h1 : sumFrom (greatestOf b r) y (p + 1 - y) = sumFrom (greatestOf b r) y j + s.2 + R.vary := by rw [show p + 1 - y = j + 1 by omega]; simp only [sumFrom]; rw [hyj, f1]; omega
      rw [show p - y = j by omega] at hl
      have hj6 := hB.y2
      have hpl : p < R.grow.length := by have := HGL.out; omega
      obtain ⟨gb, go, x, rfl, hx, c0, c1⟩ := HG.out p hpl
      have hxs : x = s := by have := hx.out; rw [hs] at this; exact (Option.some.inj this).symm
      subst hxs
      obtain ⟨xl, xh⟩ := x
      simp only at hs1 h0 h1 c0 c1
      obtain ⟨k0, k1, _, _, _, _⟩ := HD.out _ hl.ext
      have c0' := (HXW.out.trans hl.ext).cell c0
      have c1' := (HXW.out.trans hl.ext).cell c1
      obtain ⟨l0, l1, l2, l3⟩ := And.intro hl.c0 (And.intro hl.c1 (And.intro hl.f0 hl.f1))
      have HL := Lib.hid hl
      have H01 := Lib.hid (And.intro h0 h1)
      have hv1 := hv.1
      have hv2 := hv.2
      have hs1a := hs1.1
      have hs1b := hs1.2.1
      have hs1c := hs1.2.2
      have j1 : (0 : Int) ≤ (p : Int) := by omega
      have j2 : (p : Int) < (R.grow.length : Int) := by omega
      have hlt' : decide ((p : Int) ≤ (z : Int)) = true := by simp; omega
      have hj8 : j ≤ 6 := by omega
      have sa1 := hsb.1
      have sa2 := hsb.2
      have sb1 := hsc.1
      have sb2 := hsc.2
      clear hl hs f0 f1 hyj h0 h1 hs1 hv hsb hsc c0 c1 hL0 hx hj
      generalize sumFrom (leastOf b r) y j = A at *
      generalize sumFrom (greatestOf b r) y j = B at *
      go_upto_region 6 with fail
      refine wp_region_noPanic ?_
      refine wp_region_any (by kernel_rfl) (wpAny_of_till (z := 26) (S := (fun w' => w'.cell? ⟨W.heap.size, 0, none⟩ = some (.int .i64 A) ∧ w'.cell? ⟨W.heap.size, 1, none⟩ = some (.int .i64 B) ∧ w'.cell? ⟨w.heap.size + 2, 0, none⟩ = some (.slice (some ⟨gb, go, none⟩) R.grow.length gc) ∧ w'.cell? ⟨w.heap.size + 2, 1, none⟩ = some (.int .i64 R.vary) ∧ w'.cell? ⟨gb, go + p * 2, none⟩ = some (.int .i64 xl) ∧ w'.cell? ⟨gb, go + p * 2 + 1, none⟩ = some (.int .i64 xh) ∧ w'.frozen? ⟨W.heap.size, 0, none⟩ = false ∧ w'.frozen? ⟨W.heap.size, 1, none⟩ = false)) _ _ _ _ ?_)
      change wpTill _ _ _ _ _ _ _ _ _ wr.drew
      have hS0 := (show wr.drew.cell? ⟨W.heap.size, 0, none⟩ = some (.int .i64 A) ∧ wr.drew.cell? ⟨W.heap.size, 1, none⟩ = some (.int .i64 B) ∧ wr.drew.cell? ⟨w.heap.size + 2, 0, none⟩ = some (.slice (some ⟨gb, go, none⟩) R.grow.length gc) ∧ wr.drew.cell? ⟨w.heap.size + 2, 1, none⟩ = some (.int .i64 R.vary) ∧ wr.drew.cell? ⟨gb, go + p * 2, none⟩ = some (.int .i64 xl) ∧ wr.drew.cell? ⟨gb, go + p * 2 + 1, none⟩ = some (.int .i64 xh) ∧ wr.drew.frozen? ⟨W.heap.size, 0, none⟩ = false ∧ wr.drew.frozen? ⟨W.heap.size, 1, none⟩ = false from ⟨l0, l1, k0, k1, c0', c1', l2, l3⟩)
      refine till_at (i := 0) (d := some 24) (v := ?_) (by kernel_rfl) (by kernel_rfl) (by kernel_rfl) (by kernel_rfl) (by kernel_rfl) (fun _ _ _ h => h) (fun o ho => ?_) hS0 ?_
      rotate_left
      · simp only [List.getElem?_toArray, List.getElem?_cons_zero, Option.some.injEq] at ho
        subst ho
        refine Or.inl ⟨by rfl, fun w' hSw => ?_⟩
        obtain ⟨hSw0, hSw1, hSw2, hSw3, hSw4, hSw5, hSw6, hSw7⟩ := hSw
        go_simp
        try with_reducible rfl
      try simp only [Act.put, List.setIfInBounds_toArray, List.set_cons_zero, List.set_cons_succ]
      refine till_at (i := 1) (d := some 25) (v := ?_) (by kernel_rfl) (by kernel_rfl) (by kernel_rfl) (by kernel_rfl) (by kernel_rfl) (fun _ _ _ h => h) (fun o ho => ?_) hS0 ?_
      rotate_left
      · simp only [List.getElem?_toArray, List.getElem?_cons_zero, List.getElem?_cons_succ, Option.some.injEq] at ho
        subst ho
        refine Or.inl ⟨by rfl, fun w' hSw => ?_⟩
        obtain ⟨hSw0, hSw1, hSw2, hSw3, hSw4, hSw5, hSw6, hSw7⟩ := hSw
        go_simp
        try with_reducible rfl
      try simp only [Act.put, List.setIfInBounds_toArray, List.set_cons_zero, List.set_cons_succ]
      refine till_at (i := 2) (d := some 26) (v := ?_) (by kernel_rfl) (by kernel_rfl) (by kernel_rfl) (by kernel_rfl) (by kernel_rfl) (fun _ _ _ h => h) (fun o ho => ?_) hS0 ?_
      rotate_left
      · simp only [List.getElem?_toArray, List.getElem?_cons_zero, List.getElem?_cons_succ, Option.some.injEq] at ho
        subst ho
        refine Or.inl ⟨by rfl, fun w' hSw => ?_⟩
        obtain ⟨hSw0, hSw1, hSw2, hSw3, hSw4, hSw5, hSw6, hSw7⟩ := hSw
        go_simp
        try with_reducible rfl
      try simp only [Act.put, List.setIfInBounds_toArray, List.set_cons_zero, List.set_cons_succ]
      refine till_at (i := 3) (d := some 27) (v := ?_) (by kernel_rfl) (by kernel_rfl) (by kernel_rfl) (by kernel_rfl) (by kernel_rfl) (fun _ _ _ h => h) (fun o ho => ?_) hS0 ?_
      rotate_left
      · simp only [List.getElem?_toArray, List.getElem?_cons_zero, List.getElem?_cons_succ, Option.some.injEq] at ho
        subst ho
        refine Or.inl ⟨by rfl, fun w' hSw => ?_⟩
        obtain ⟨hSw0, hSw1, hSw2, hSw3, hSw4, hSw5, hSw6, hSw7⟩ := hSw
        go_simp
        try with_reducible rfl
      try simp only [Act.put, List.setIfInBounds_toArray, List.set_cons_zero, List.set_cons_succ]
      refine till_at (i := 4) (d := some 28) (v := ?_) (by kernel_rfl) (by kernel_rfl) (by kernel_rfl) (by kernel_rfl) (by kernel_rfl) (fun _ _ _ h => h) (fun o ho => ?_) hS0 ?_
      rotate_left
      · simp only [List.getElem?_toArray, List.getElem?_cons_zero, List.getElem?_cons_succ, Option.some.injEq] at ho
        subst ho
        refine Or.inl ⟨by rfl, fun w' hSw => ?_⟩
        obtain ⟨hSw0, hSw1, hSw2, hSw3, hSw4, hSw5, hSw6, hSw7⟩ := hSw
        go_simp
        try with_reducible rfl
      try simp only [Act.put, List.setIfInBounds_toArray, List.set_cons_zero, List.set_cons_succ]
      refine till_at (i := 5) (d := some 29) (v := ?_) (by kernel_rfl) (by kernel_rfl) (by kernel_rfl) (by kernel_rfl) (by kernel_rfl) (fun _ _ _ h => h) (fun o ho => ?_) hS0 ?_
      rotate_left
      · simp only [List.getElem?_toArray, List.getElem?_cons_zero, List.getElem?_cons_succ, Option.some.injEq] at ho
        subst ho
        refine Or.inl ⟨by rfl, fun w' hSw => ?_⟩
        obtain ⟨hSw0, hSw1, hSw2, hSw3, hSw4, hSw5, hSw6, hSw7⟩ := hSw
        go_simp
        try with_reducible rfl
      try simp only [Act.put, List.setIfInBounds_toArray, List.set_cons_zero, List.set_cons_succ]
      refine till_at (i := 6) (d := some 30) (v := ?_) (by kernel_rfl) (by kernel_rfl) (by kernel_rfl) (by kernel_rfl) (by kernel_rfl) (fun _ _ _ h => h) (fun o ho => ?_) hS0 ?_
      rotate_left
      · simp only [List.getElem?_toArray, List.getElem?_cons_zero, List.getElem?_cons_succ, Option.some.injEq] at ho
        subst ho
        refine Or.inl ⟨by rfl, fun w' hSw => ?_⟩
        obtain ⟨hSw0, hSw1, hSw2, hSw3, hSw4, hSw5, hSw6, hSw7⟩ := hSw
        go_simp
        try with_reducible rfl
      try simp only [Act.put, List.setIfInBounds_toArray, List.set_cons_zero, List.set_cons_succ]
      refine till_at (i := 7) (d := some 31) (v := ?_) (by kernel_rfl) (by kernel_rfl) (by kernel_rfl) (by kernel_rfl) (by kernel_rfl) (fun _ _ _ h => h) (fun o ho => ?_) hS0 ?_
      rotate_left
      · simp only [List.getElem?_toArray, List.getElem?_cons_zero, List.getElem?_cons_succ, Option.some.injEq] at ho
        subst ho
        refine Or.inl ⟨by rfl, fun w' hSw => ?_⟩
        obtain ⟨hSw0, hSw1, hSw2, hSw3, hSw4, hSw5, hSw6, hSw7⟩ := hSw
        go_simp
        try with_reducible rfl
      try simp only [Act.put, List.setIfInBounds_toArray, List.set_cons_zero, List.set_cons_succ]
      refine till_at (i := 8) (d := some 32) (v := ?_) (by kernel_rfl) (by kernel_rfl) (by kernel_rfl) (by kernel_rfl) (by kernel_rfl) (fun _ _ _ h => h) (fun o ho => ?_) hS0 ?_
      rotate_left
      · simp only [List.getElem?_toArray, List.getElem?_cons_zero, List.getElem?_cons_succ, Option.some.injEq] at ho
        subst ho
        refine Or.inl ⟨by rfl, fun w' hSw => ?_⟩
        obtain ⟨hSw0, hSw1, hSw2, hSw3, hSw4, hSw5, hSw6, hSw7⟩ := hSw
        go_simp
        try with_reducible rfl
      try simp only [Act.put, List.setIfInBounds_toArray, List.set_cons_zero, List.set_cons_succ]
      refine till_at (i := 9) (d := some 33) (v := ?_) (by kernel_rfl) (by kernel_rfl) (by kernel_rfl) (by kernel_rfl) (by kernel_rfl) (fun _ _ _ h => h) (fun o ho => ?_) hS0 ?_
      rotate_left
      · simp only [List.getElem?_toArray, List.getElem?_cons_zero, List.getElem?_cons_succ, Option.some.injEq] at ho
        subst ho
        refine Or.inl ⟨by rfl, fun w' hSw => ?_⟩
        obtain ⟨hSw0, hSw1, hSw2, hSw3, hSw4, hSw5, hSw6, hSw7⟩ := hSw
        go_simp
        try with_reducible rfl
      try simp only [Act.put, List.setIfInBounds_toArray, List.set_cons_zero, List.set_cons_succ]
      refine till_at (i := 10) (d := some 34) (v := ?_) (by kernel_rfl) (by kernel_rfl) (by kernel_rfl) (by kernel_rfl) (by kernel_rfl) (fun _ _ _ h => h) (fun o ho => ?_) hS0 ?_
      rotate_left
      · simp only [List.getElem?_toArray, List.getElem?_cons_zero, List.getElem?_cons_succ, Option.some.injEq] at ho
        subst ho
        refine Or.inl ⟨by rfl, fun w' hSw => ?_⟩
        obtain ⟨hSw0, hSw1, hSw2, hSw3, hSw4, hSw5, hSw6, hSw7⟩ := hSw
        go_simp
        (try rw [show IntKind.i64.wrap (xl - R.vary) = xl - R.vary from IntWalk.i64_in _ (by omega)])
        try with_reducible rfl
      try simp only [Act.put, List.setIfInBounds_toArray, List.set_cons_zero, List.set_cons_succ]
      refine till_at (i := 11) (d := some 35) (v := ?_) (by kernel_rfl) (by kernel_rfl) (by kernel_rfl) (by kernel_rfl) (by kernel_rfl) (fun _ _ _ h => h) (fun o ho => ?_) hS0 ?_
      rotate_left
      · simp only [List.getElem?_toArray, List.getElem?_cons_zero, List.getElem?_cons_succ, Option.some.injEq] at ho
        subst ho
        refine Or.inl ⟨by rfl, fun w' hSw => ?_⟩
        obtain ⟨hSw0, hSw1, hSw2, hSw3, hSw4, hSw5, hSw6, hSw7⟩ := hSw
        go_simp
        try with_reducible rfl
      try simp only [Act.put, List.setIfInBounds_toArray, List.set_cons_zero, List.set_cons_succ]
      refine till_at (i := 12) (d := some 36) (v := ?_) (by kernel_rfl) (by kernel_rfl) (by kernel_rfl) (by kernel_rfl) (by kernel_rfl) (fun _ _ _ h => h) (fun o ho => ?_) hS0 ?_
      rotate_left
      · simp only [List.getElem?_toArray, List.getElem?_cons_zero, List.getElem?_cons_succ, Option.some.injEq] at ho
        subst ho
        refine Or.inl ⟨by rfl, fun w' hSw => ?_⟩
        obtain ⟨hSw0, hSw1, hSw2, hSw3, hSw4, hSw5, hSw6, hSw7⟩ := hSw
        go_simp
        (try rw [show IntKind.i64.wrap (A + max 0 (xl - R.vary)) = A + max 0 (xl - R.vary) from IntWalk.i64_in _ (by omega)])
        try with_reducible rfl
      try simp only [Act.put, List.setIfInBounds_toArray, List.set_cons_zero, List.set_cons_succ]
      refine till_at (i := 13) (d := some 37) (v := ?_) (by kernel_rfl) (by kernel_rfl) (by kernel_rfl) (by kernel_rfl) (by kernel_rfl) (fun _ _ _ h => h) (fun o ho => ?_) hS0 ?_
      rotate_left
      · simp only [List.getElem?_toArray, List.getElem?_cons_zero, List.getElem?_cons_succ, Option.some.injEq] at ho
        subst ho
        refine Or.inl ⟨by rfl, fun w' hSw => ?_⟩
        obtain ⟨hSw0, hSw1, hSw2, hSw3, hSw4, hSw5, hSw6, hSw7⟩ := hSw
        go_simp
        try with_reducible rfl
      try simp only [Act.put, List.setIfInBounds_toArray, List.set_cons_zero, List.set_cons_succ]
      refine till_at (i := 14) (d := some 38) (v := ?_) (by kernel_rfl) (by kernel_rfl) (by kernel_rfl) (by kernel_rfl) (by kernel_rfl) (fun _ _ _ h => h) (fun o ho => ?_) hS0 ?_
      rotate_left
      · simp only [List.getElem?_toArray, List.getElem?_cons_zero, List.getElem?_cons_succ, Option.some.injEq] at ho
        subst ho
        refine Or.inl ⟨by rfl, fun w' hSw => ?_⟩
        obtain ⟨hSw0, hSw1, hSw2, hSw3, hSw4, hSw5, hSw6, hSw7⟩ := hSw
        go_simp
        try with_reducible rfl
      try simp only [Act.put, List.setIfInBounds_toArray, List.set_cons_zero, List.set_cons_succ]
      refine till_at (i := 15) (d := some 39) (v := ?_) (by kernel_rfl) (by kernel_rfl) (by kernel_rfl) (by kernel_rfl) (by kernel_rfl) (fun _ _ _ h => h) (fun o ho => ?_) hS0 ?_
      rotate_left
      · simp only [List.getElem?_toArray, List.getElem?_cons_zero, List.getElem?_cons_succ, Option.some.injEq] at ho
        subst ho
        refine Or.inl ⟨by rfl, fun w' hSw => ?_⟩
        obtain ⟨hSw0, hSw1, hSw2, hSw3, hSw4, hSw5, hSw6, hSw7⟩ := hSw
        go_simp
        try with_reducible rfl
      try simp only [Act.put, List.setIfInBounds_toArray, List.set_cons_zero, List.set_cons_succ]
      refine till_at (i := 16) (d := some 40) (v := ?_) (by kernel_rfl) (by kernel_rfl) (by kernel_rfl) (by kernel_rfl) (by kernel_rfl) (fun _ _ _ h => h) (fun o ho => ?_) hS0 ?_
      rotate_left
      · simp only [List.getElem?_toArray, List.getElem?_cons_zero, List.getElem?_cons_succ, Option.some.injEq] at ho
        subst ho
        refine Or.inl ⟨by rfl, fun w' hSw => ?_⟩
        obtain ⟨hSw0, hSw1, hSw2, hSw3, hSw4, hSw5, hSw6, hSw7⟩ := hSw
        go_simp
        try with_reducible rfl
      try simp only [Act.put, List.setIfInBounds_toArray, List.set_cons_zero, List.set_cons_succ]
      refine till_at (i := 17) (d := some 41) (v := ?_) (by kernel_rfl) (by kernel_rfl) (by kernel_rfl) (by kernel_rfl) (by kernel_rfl) (fun _ _ _ h => h) (fun o ho => ?_) hS0 ?_
      rotate_left
      · simp only [List.getElem?_toArray, List.getElem?_cons_zero, List.getElem?_cons_succ, Option.some.injEq] at ho
        subst ho
        refine Or.inl ⟨by rfl, fun w' hSw => ?_⟩
        obtain ⟨hSw0, hSw1, hSw2, hSw3, hSw4, hSw5, hSw6, hSw7⟩ := hSw
        go_simp
        try with_reducible rfl
      try simp only [Act.put, List.setIfInBounds_toArray, List.set_cons_zero, List.set_cons_succ]
      refine till_at (i := 18) (d := some 42) (v := ?_) (by kernel_rfl) (by kernel_rfl) (by kernel_rfl) (by kernel_rfl) (by kernel_rfl) (fun _ _ _ h => h) (fun o ho => ?_) hS0 ?_
      rotate_left
      · simp only [List.getElem?_toArray, List.getElem?_cons_zero, List.getElem?_cons_succ, Option.some.injEq] at ho
        subst ho
        refine Or.inl ⟨by rfl, fun w' hSw => ?_⟩
        obtain ⟨hSw0, hSw1, hSw2, hSw3, hSw4, hSw5, hSw6, hSw7⟩ := hSw
        go_simp
        try with_reducible rfl
      try simp only [Act.put, List.setIfInBounds_toArray, List.set_cons_zero, List.set_cons_succ]
      refine till_at (i := 19) (d := some 43) (v := ?_) (by kernel_rfl) (by kernel_rfl) (by kernel_rfl) (by kernel_rfl) (by kernel_rfl) (fun _ _ _ h => h) (fun o ho => ?_) hS0 ?_
      rotate_left
      · simp only [List.getElem?_toArray, List.getElem?_cons_zero, List.getElem?_cons_succ, Option.some.injEq] at ho
        subst ho
        refine Or.inl ⟨by rfl, fun w' hSw => ?_⟩
        obtain ⟨hSw0, hSw1, hSw2, hSw3, hSw4, hSw5, hSw6, hSw7⟩ := hSw
        go_simp
        try with_reducible rfl
      try simp only [Act.put, List.setIfInBounds_toArray, List.set_cons_zero, List.set_cons_succ]
      refine till_at (i := 20) (d := some 44) (v := ?_) (by kernel_rfl) (by kernel_rfl) (by kernel_rfl) (by kernel_rfl) (by kernel_rfl) (fun _ _ _ h => h) (fun o ho => ?_) hS0 ?_
      rotate_left
      · simp only [List.getElem?_toArray, List.getElem?_cons_zero, List.getElem?_cons_succ, Option.some.injEq] at ho
        subst ho
        refine Or.inl ⟨by rfl, fun w' hSw => ?_⟩
        obtain ⟨hSw0, hSw1, hSw2, hSw3, hSw4, hSw5, hSw6, hSw7⟩ := hSw
        go_simp
        try with_reducible rfl
      try simp only [Act.put, List.setIfInBounds_toArray, List.set_cons_zero, List.set_cons_succ]
      refine till_at (i := 21) (d := some 45) (v := ?_) (by kernel_rfl) (by kernel_rfl) (by kernel_rfl) (by kernel_rfl) (by kernel_rfl) (fun _ _ _ h => h) (fun o ho => ?_) hS0 ?_
      rotate_left
      · simp only [List.getElem?_toArray, List.getElem?_cons_zero, List.getElem?_cons_succ, Option.some.injEq] at ho
        subst ho
        refine Or.inl ⟨by rfl, fun w' hSw => ?_⟩
        obtain ⟨hSw0, hSw1, hSw2, hSw3, hSw4, hSw5, hSw6, hSw7⟩ := hSw
        go_simp
        (try rw [show IntKind.i64.wrap (B + xh) = B + xh from IntWalk.i64_in _ (by omega)])
        try with_reducible rfl
      try simp only [Act.put, List.setIfInBounds_toArray, List.set_cons_zero, List.set_cons_succ]
      refine till_at (i := 22) (d := some 46) (v := ?_) (by kernel_rfl) (by kernel_rfl) (by kernel_rfl) (by kernel_rfl) (by kernel_rfl) (fun _ _ _ h => h) (fun o ho => ?_) hS0 ?_
      rotate_left
      · simp only [List.getElem?_toArray, List.getElem?_cons_zero, List.getElem?_cons_succ, Option.some.injEq] at ho
        subst ho
        refine Or.inl ⟨by rfl, fun w' hSw => ?_⟩
        obtain ⟨hSw0, hSw1, hSw2, hSw3, hSw4, hSw5, hSw6, hSw7⟩ := hSw
        go_simp
        try with_reducible rfl
      try simp only [Act.put, List.setIfInBounds_toArray, List.set_cons_zero, List.set_cons_succ]
      refine till_at (i := 23) (d := some 47) (v := ?_) (by kernel_rfl) (by kernel_rfl) (by kernel_rfl) (by kernel_rfl) (by kernel_rfl) (fun _ _ _ h => h) (fun o ho => ?_) hS0 ?_
      rotate_left
      · simp only [List.getElem?_toArray, List.getElem?_cons_zero, List.getElem?_cons_succ, Option.some.injEq] at ho
        subst ho
        refine Or.inl ⟨by rfl, fun w' hSw => ?_⟩
        obtain ⟨hSw0, hSw1, hSw2, hSw3, hSw4, hSw5, hSw6, hSw7⟩ := hSw
        go_simp
        try with_reducible rfl
      try simp only [Act.put, List.setIfInBounds_toArray, List.set_cons_zero, List.set_cons_succ]
      refine till_at (i := 24) (d := some 48) (v := ?_) (by kernel_rfl) (by kernel_rfl) (by kernel_rfl) (by kernel_rfl) (by kernel_rfl) (fun _ _ _ h => h) (fun o ho => ?_) hS0 ?_
      rotate_left
      · simp only [List.getElem?_toArray, List.getElem?_cons_zero, List.getElem?_cons_succ, Option.some.injEq] at ho
        subst ho
        refine Or.inl ⟨by rfl, fun w' hSw => ?_⟩
        obtain ⟨hSw0, hSw1, hSw2, hSw3, hSw4, hSw5, hSw6, hSw7⟩ := hSw
        go_simp
        (try rw [show IntKind.i64.wrap (B + xh + R.vary) = B + xh + R.vary from IntWalk.i64_in _ (by omega)])
        try with_reducible rfl
      try simp only [Act.put, List.setIfInBounds_toArray, List.set_cons_zero, List.set_cons_succ]
      refine till_at (i := 25) (d := some 49) (v := ?_) (by kernel_rfl) (by kernel_rfl) (by kernel_rfl) (by kernel_rfl) (by kernel_rfl) (fun _ _ _ h => h) (fun o ho => ?_) hS0 ?_
      rotate_left
      · simp only [List.getElem?_toArray, List.getElem?_cons_zero, List.getElem?_cons_succ, Option.some.injEq] at ho
        subst ho
        refine Or.inl ⟨by rfl, fun w' hSw => ?_⟩
        obtain ⟨hSw0, hSw1, hSw2, hSw3, hSw4, hSw5, hSw6, hSw7⟩ := hSw
        go_simp
        try with_reducible rfl
      try simp only [Act.put, List.setIfInBounds_toArray, List.set_cons_zero, List.set_cons_succ]
      refine till_step (i := 26) (by kernel_rfl) (by kernel_rfl) (fun o ho K' hK => ?_)
      simp only [List.getElem?_toArray, List.getElem?_cons_zero, List.getElem?_cons_succ, Option.some.injEq] at ho
      subst ho
      go_simp
      refine hK.out _ _ (fun h => absurd rfl h) (fun _ => ?_)
      clear hK K'
      try simp only [Act.put, List.setIfInBounds_toArray, List.set_cons_zero, List.set_cons_succ]
      refine till_done (by kernel_rfl) ?_ _
      refine NoPanic.normal ?_
      try simp only [Act.put, List.setIfInBounds_toArray, List.set_cons_zero, List.set_cons_succ]
      have hM : max 0 (xl - R.vary) = if R.vary < xl then xl - R.vary else 0 := by split <;> omega
      have hs0 := (HL.out.set0 (A + max 0 (xl - R.vary))).set1 (B + xh + R.vary)
      rw [hM] at hs0
      have HS0 := Lib.hid hs0
      have HM := Lib.hid hM
      clear hs0 hM
      go_wp2
      go_roundw
      case rel => exact ⟨p + 1, by omega, by omega, by go_num, by rw [H01.out.1, H01.out.2, HM.out]; exact HS0.out.move (by repeat (first | exact Ext.refl _ | apply Ext.drew))⟩
      case measure => simp [intOf]; omega
    · have hlt' : decide ((p : Int) ≤ (z : Int)) = false := by simp; omega
      have hres : lengthOf b r y z = (sumFrom (leastOf b r) y (p - y), sumFrom (greatestOf b r) y (p - y)) := by unfold lengthOf; rw [show ((z : Int) + 1 - (y : Int)).toNat = p - y by omega]
      have HRES := Lib.hid hres
      obtain ⟨_, _, m0, m1, m2, m3⟩ := HD.out _ hl.ext
      obtain ⟨l0, l1, l2, l3⟩ := And.intro hl.c0 (And.intro hl.c1 (And.intro hl.f0 hl.f1))
      have HX := Lib.hid (HXW.out.trans hl.ext)
      clear hres hl hL0
      generalize sumFrom (leastOf b r) y (p - y) = A at *
      generalize sumFrom (greatestOf b r) y (p - y) = B at *
      go_wp2
      have c0 : ((wr.setCell ⟨w.heap.size + 1, 0, none⟩ (.int .i64 A)).setCell ⟨w.heap.size + 1, 1, none⟩ (.int .i64 B)).cell? ⟨w.heap.size + 1, 0, none⟩ = some (.int .i64 A) := by go_simp
      have c1 : ((wr.setCell ⟨w.heap.size + 1, 0, none⟩ (.int .i64 A)).setCell ⟨w.heap.size + 1, 1, none⟩ (.int .i64 B)).cell? ⟨w.heap.size + 1, 1, none⟩ = some (.int .i64 B) := by go_simp
      exact bodyPost_ret (v := .agg #[.int .i64 A, .int .i64 B]) (by simp [results, Tryz.results25, go_sem, c0, c1]) rfl ⟨by rw [HRES.out], (HX.out.setCell (p := ⟨w.heap.size + 1, 0, none⟩) (by simp) _).setCell (p := ⟨w.heap.size + 1, 1, none⟩) (by simp) _⟩

def rripeN (b : Book) (r y size : Int) : Int := match ripeOf b r y size with | some k => y + k | none => -1
set_option maxRecDepth 100000 in
set_option maxHeartbeats 4000000 in
theorem rripe_any (v : Value) (b : Book) (r y : Nat) (size : Int) (w : World) (hb : BookAt w v b) (hB : BookB b) (h2 : r < b.rivers.length) (h3 : (y : Int) < b.years) :
    Calls Tryz.prog 27 #[v, .int .i64 r, .int .i64 y, .int .i64 size] w fun e w' => e = .returned (.int .i64 (rripeN b r y size)) ∧ Ext w w' := by
  have HL := Lib.hid (fun w1 (hx : Ext w w1) (z : Nat) (h4 : (z : Int) < b.years) (h5 : y ≤ z) => rlength_any v b r y z w1 (hb.ext hx) hB h2 h4 h5)
  obtain ⟨rv, rfl, hr⟩ := hb
  obtain ⟨ra, rc, rfl, _⟩ := hr.open
  have hx0 : Ext w (w.alloc (.cells #[.int .i64 b.years, .slice ra b.rivers.length rc] 24)) := (Ext.refl w).alloc _
  have HX0 := Lib.hid hx0
  have HC := Lib.hid (fun W (h : Ext (w.alloc (.cells #[.int .i64 b.years, .slice ra b.rivers.length rc] 24)) W) => (⟨h.cell (by go_simp), h.cell (by go_simp)⟩ : W.cell? ⟨w.heap.size, 0, none⟩ = some (.int .i64 b.years) ∧ W.cell? ⟨w.heap.size, 1, none⟩ = some (.slice ra b.rivers.length rc)))
  have hfl : ∀ (a c : Int) wq, (Instr.field 47 (.agg #[.int .i64 a, .int .i64 c]) 0).run Tryz.prog wq = .ok (.int .i64 a) wq := fun _ _ _ => by kernel_rfl
  have hy2 := hB.y2
  clear hr hx0 hB
  go_enter Tryz.func27, Tryz.ntmps27
  go_wp2
  go_loopw [9] (fun t wr => ∃ p : Nat, y ≤ p ∧ (p : Int) ≤ b.years ∧ t = .int .i64 p ∧ Ext (w.alloc (.cells #[.int .i64 b.years, .slice ra b.rivers.length rc] 24)) wr ∧ Hid (∀ k, k < p - y → sumFrom (leastOf b r) y (k + 1) < size)) (fun t _ => (b.years - intOf t).toNat)
  case atStart => exact ⟨y, Nat.le_refl _, by omega, rfl, Ext.refl _, fun k hk => by omega⟩
  case round =>
    obtain ⟨p, hyp, hj, rfl, hx, hno⟩ := hrel
    obtain ⟨z0, z1⟩ := HC.out _ hx
    by_cases hlt : (p : Int) < b.years
    · have hlt' : decide ((p : Int) < b.years) = true := by simpa using hlt
      have hl := HL.out wr (HX0.out.trans hx) p hlt hyp
      have hlen : lengthOf b r y (p : Int) = (sumFrom (leastOf b r) y (p - y + 1), sumFrom (greatestOf b r) y (p - y + 1)) := by unfold lengthOf; rw [show ((p : Int) + 1 - (y : Int)).toNat = p - y + 1 by omega]
      rw [hlen] at hl
      have HLL := Lib.hid hl
      clear hl hlen
      by_cases hge : size ≤ sumFrom (leastOf b r) y (p - y + 1)
      · have HQ : Hid (rripeN b r y size = (p : Int)) := by unfold Hid rripeN; rw [ripe_found (j := p - y) (by omega) hno.out hge]; simp only []; omega
        have t1 : decide (size ≤ sumFrom (leastOf b r) y (p - y + 1)) = true := by simpa using hge
        generalize sumFrom (leastOf b r) y (p - y + 1) = A at *
        go_wp2_with (go_at_call 25; refine HLL.out.mono ?_; rintro e w2 ⟨rfl, hx2⟩)
        go_ret
        exact ⟨by rw [HQ.out] <;> rfl, HX0.out.trans (hx.trans hx2)⟩
      · have HN : Hid (∀ k, k < p + 1 - y → sumFrom (leastOf b r) y (k + 1) < size) := fun k hk => by
          by_cases h : k < p - y
          · exact hno.out k h
          · have : k = p - y := by omega
            subst this; omega
        have t1 : decide (size ≤ sumFrom (leastOf b r) y (p - y + 1)) = false := by simpa using hge
        generalize sumFrom (leastOf b r) y (p - y + 1) = A at HLL t1
        clear hge
        go_wp2_with (go_at_call 25; refine HLL.out.mono ?_; rintro e w2 ⟨rfl, hx2⟩)
        go_roundw
        case rel => exact ⟨p + 1, by omega, by omega, by go_num, hx.trans hx2, HN⟩
        case measure => simp [intOf]; omega
    · have hlt' : decide ((p : Int) < b.years) = false := by simpa using hlt
      have HQ : Hid (rripeN b r y size = -1) := by unfold Hid rripeN; rw [ripe_none (fun k hk => hno.out k (by omega))]
      go_wp2
      go_ret
      exact ⟨by rw [HQ.out] <;> rfl, HX0.out.trans hx⟩
end Go.Proofs.YtabkfohbdfpdpaaGreatDoor
