/- CardEnds: the main way, and the law. -/
import Derived.Test.YtbeophjdiddomaaGreatDoorEndsh
namespace Go.Proofs.YtbeophjdiddomaaGreatDoor
open Go.RowKit

set_option maxRecDepth 1000000 in
set_option maxHeartbeats 64000000 in
theorem endsL_main (v : Value) (r : Round) (w : World) (hr : RoundAt w v r) (ht : TabOk w) (hs : slimB r = true) (hb : isRoundB r = true) : Calls Tryz.prog 3 #[v] w (TrueP w) := by
  obtain ⟨hv, rfl, hh⟩ := hr
  have hr' : RoundAt w (.agg (r.cells hv).toArray) r := ⟨hv, rfl, hh⟩
  obtain ⟨a, c, rfl, h1, h2, h3⟩ := hh.open
  have HH := Lib.hid h3
  clear h3
  have hx0 : Ext w (w.alloc (boxD r a c)) := (Ext.refl w).alloc _
  have HX0 := Lib.hid hx0
  have HSL := Lib.hid (fun w1 (hx : Ext w w1) => slim_any _ r w1 (hr'.ext hx))
  have HRR := Lib.hid (fun w1 (hx : Ext w w1) => rround_any _ r w1 (hr'.ext hx))
  have HL := Lib.hid (fun w1 (hx : Ext w w1) => lknown_any w1 (ht.ext hx))
  have HB := Lib.hid (fun W (h : Ext (w.alloc (boxD r a c)) W) => round_cells ((h.block (by simp)).trans (World.alloc_heap_new w (boxD r a c))))
  have HTT := Lib.hid ht
  have HRA := Lib.hid hr'
  have hbb := Lib.hid hb
  have hB := roundB_of hb
  have HBB := Lib.hid hB
  have hp1 := hB.p1
  have hp2 := hB.p2
  have hl1 := hB.l1
  have hl2 := hB.l2
  have hl3 := hB.l3
  have hn1 := hB.h1
  have hn2 := hB.h2
  rw [hs] at HSL
  rw [hb] at HRR
  have hmix : Tryz.prog.follows .mixedOrders = true := by kernel_rfl
  have E1 : IntKind.i64.wrap (r.hi - r.lo) = r.hi - r.lo := IntWalk.i64_in _ (by omega)
  have E2 : IntKind.i64.wrap (r.hi - r.lo + 1) = r.hi - r.lo + 1 := IntWalk.i64_in _ (by omega)
  have E3 : IntKind.i64.wrap (r.per - 1) = r.per - 1 := IntWalk.i64_in _ (by omega)
  unfold Round.cells at *
  clear hr' hh hx0 ht hB
  go_enter Tryz.func3, Tryz.ntmps3
  obtain ⟨z0, z1, z2, z3, z4, z5, z6, z7⟩ := HB.out _ (Ext.refl _)
  go_wp2_with (first
    | (go_at_call 7; refine (HSL.out _ HX0.out).mono ?_; rintro e w1 ⟨rfl, hx1⟩; have hy1 := Ext.trans (Ext.refl (w.alloc (boxD r a c))) hx1; clear z0 z1 z2 z3 z4 z5 z6 z7; obtain ⟨z0, z1, z2, z3, z4, z5, z6, z7⟩ := HB.out _ hy1)
    | (go_at_call 8; refine (HRR.out _ (HX0.out.trans hy1)).mono ?_; rintro e w2 ⟨rfl, hx2⟩; have hy2 := Ext.trans hy1 hx2; clear z0 z1 z2 z3 z4 z5 z6 z7; obtain ⟨z0, z1, z2, z3, z4, z5, z6, z7⟩ := HB.out _ hy2))
  have hy2w := HX0.out.trans hy2
  have hbx2 : Hid (w2.heap[w.heap.size]? = some (.cells #[.int .i64 r.per, .int .i64 r.lo, .int .i64 r.hi, .int .i64 r.card, .int .i64 r.slack, .slice a r.houses.length c, .int .i64 r.all, .int .i64 r.off] 26 (0, 0))) := (hy2.block (by simp)).trans (World.alloc_heap_new w _)
  go_loopw [4, 5] (fun sv i wr => ∃ k : Nat, k ≤ r.houses.length ∧ i = .int .i64 k ∧ wr.ownsRow (w.heap.size + 1) 23 2 sv (2 * k) (((spansE r).take (2 * k)).flatMap spanCells) ∧ Ext w wr ∧ Hid (wr.heap[w.heap.size]? = some (.cells #[.int .i64 r.per, .int .i64 r.lo, .int .i64 r.hi, .int .i64 r.card, .int .i64 r.slack, .slice a r.houses.length c, .int .i64 r.all, .int .i64 r.off] 26 (0, 0)))) (fun _ i _ => r.houses.length - (intOf i).toNat)
  case atStart => exact ⟨0, Nat.zero_le _, rfl, World.ownsRow_nil _ _ _ _, hy2w, hbx2⟩
  case round =>
    clear hy2w hbx2
    obtain ⟨k, hk, rfl, hown, hx, hbx⟩ := hrel
    clear z0 z1 z2 z3 z4 z5 z6 z7
    obtain ⟨z0, z1, z2, z3, z4, z5, z6, z7⟩ := round_cells hbx.out
    have HO := Lib.hid hown
    have hltb := lt_of_heap hbx.out
    clear hown
    by_cases hlt : k < r.houses.length
    · obtain ⟨b, o, x, rfl, hxk, c0, c1, c2, c3, c4, c5⟩ := HH.out k hlt
      have d0 := hx.cell c0
      have d1 := hx.cell c1
      have d2 := hx.cell c2
      have d3 := hx.cell c3
      have d4 := hx.cell c4
      have d5 := hx.cell c5
      have hbd := badHouse_iff.1 (HBB.out.hs x (List.mem_of_getElem? hxk.out))
      have hbx1 := hbd.2.2.1
      have hbx2 := hbd.2.2.2.2.1
      have hbx3 : 0 ≤ x.loose ∧ x.loose ≤ 60 := ⟨hbd.2.2.2.1.1, by have := hbd.2.2.2.1.2; omega⟩
      clear c0 c1 c2 c3 c4 c5 hbd
      have x2 : decide ((k : Int) < (r.houses.length : Int)) = true := by simpa using hlt
      have hsz : 2 * k + 1 + 1 ≤ maxLen ∧ (2 * k + 1 + 1) * 16 ≤ 140737488355328 := by unfold maxLen; omega
      have HSZ := Lib.hid hsz
      have HXH : Hid (Ext wr (wr.alloc (.cells #[.int .i64 x.out, .int .i64 x.cards, .int .i64 x.full, .int .i64 x.loose, .int .i64 x.miss, .int .i64 x.weighed] 31)).drew) := ((Ext.refl wr).alloc _).drew
      have HS0 : Hid ((wr.alloc (.cells #[.int .i64 x.out, .int .i64 x.cards, .int .i64 x.full, .int .i64 x.loose, .int .i64 x.miss, .int .i64 x.weighed] 31)).drew.heap[w.heap.size]? = some (.cells #[.int .i64 r.per, .int .i64 r.lo, .int .i64 r.hi, .int .i64 r.card, .int .i64 r.slack, .slice (some ⟨b, o, none⟩) r.houses.length c, .int .i64 r.all, .int .i64 r.off] 26 (0, 0)) ∧ (wr.alloc (.cells #[.int .i64 x.out, .int .i64 x.cards, .int .i64 x.full, .int .i64 x.loose, .int .i64 x.miss, .int .i64 x.weighed] 31)).drew.heap[wr.heap.size]? = some (.cells #[.int .i64 x.out, .int .i64 x.cards, .int .i64 x.full, .int .i64 x.loose, .int .i64 x.miss, .int .i64 x.weighed] 31 (0, 0))) := ⟨(Below.heap_alloc _ _ _ hltb).trans hbx.out, World.alloc_heap_new _ _⟩
      have hltb : w.heap.size < (wr.alloc (.cells #[.int .i64 x.out, .int .i64 x.cards, .int .i64 x.full, .int .i64 x.loose, .int .i64 x.miss, .int .i64 x.weighed] 31)).drew.heap.size := lt_of_heap HS0.out.1
      have hlth : wr.heap.size < (wr.alloc (.cells #[.int .i64 x.out, .int .i64 x.cards, .int .i64 x.full, .int .i64 x.loose, .int .i64 x.miss, .int .i64 x.weighed] 31)).drew.heap.size := lt_of_heap HS0.out.2
      have HOL : Hid (∀ k, (Value.ownBlock u4) = some k → k < wr.heap.size) := fun k hk => (World.ownsRow.lt HO.out k hk).2
      have HUP := Lib.hid (fun (W : World) (g cap : Nat) h => spans_up hxk.out (W := W) (base := w.heap.size + 1) (g := g) (cap := cap) h)
      clear hsz
      go_upto_region 9 with fail
      refine wp_region_held_drew (S := (fun w' : World => w'.heap[w.heap.size]? = some (.cells #[.int .i64 r.per, .int .i64 r.lo, .int .i64 r.hi, .int .i64 r.card, .int .i64 r.slack, .slice (some ⟨b, o, none⟩) r.houses.length c, .int .i64 r.all, .int .i64 r.off] 26 (0, 0)) ∧ w'.heap[wr.heap.size]? = some (.cells #[.int .i64 x.out, .int .i64 x.cards, .int .i64 x.full, .int .i64 x.loose, .int .i64 x.miss, .int .i64 x.weighed] 31 (0, 0)))) (by kernel_rfl) ?_ (fun hHeld => ?_)
      · exact HS0.out
      refine held_take (i := 0) (d := some 59) (v := ?_) (by kernel_rfl) (by kernel_rfl) (by kernel_rfl) (by kernel_rfl) (fun _ _ _ h => h) (fun o ho => ?_) hHeld ?_
      rotate_left
      · simp only [List.getElem?_toArray, List.getElem?_cons_zero, Option.some.injEq] at ho
        subst ho
        refine ⟨by rfl, fun w hSw => ?_⟩
        (try dsimp only at hSw)
        go_simp
        try with_reducible rfl
      try simp only [Act.put, List.setIfInBounds_toArray, List.set_cons_zero, List.set_cons_succ]
      refine held_take (i := 1) (d := some 60) (v := ?_) (by kernel_rfl) (by kernel_rfl) (by kernel_rfl) (by kernel_rfl) (fun _ _ _ h => h) (fun o ho => ?_) hHeld ?_
      rotate_left
      · simp only [List.getElem?_toArray, List.getElem?_cons_zero, List.getElem?_cons_succ, Option.some.injEq] at ho
        subst ho
        refine ⟨by rfl, fun w hSw => ?_⟩
        (try dsimp only at hSw)
        go_simp
        try with_reducible rfl
      try simp only [Act.put, List.setIfInBounds_toArray, List.set_cons_zero, List.set_cons_succ]
      refine held_take (i := 2) (d := some 61) (v := ?_) (by kernel_rfl) (by kernel_rfl) (by kernel_rfl) (by kernel_rfl) (fun _ _ _ h => h) (fun o ho => ?_) hHeld ?_
      rotate_left
      · simp only [List.getElem?_toArray, List.getElem?_cons_zero, List.getElem?_cons_succ, Option.some.injEq] at ho
        subst ho
        refine ⟨by rfl, fun w hSw => ?_⟩
        obtain ⟨hS1, hS2⟩ := hSw
        obtain ⟨z0, z1, z2, z3, z4, z5, z6, z7⟩ := round_cells hS1
        obtain ⟨y0, y1, y2, y3, y4, y5⟩ := house_cells hS2
        clear hS1 hS2
        go_simp
        try with_reducible rfl
      try simp only [Act.put, List.setIfInBounds_toArray, List.set_cons_zero, List.set_cons_succ]
      refine held_take (i := 3) (d := some 62) (v := ?_) (by kernel_rfl) (by kernel_rfl) (by kernel_rfl) (by kernel_rfl) (fun _ _ _ h => h) (fun o ho => ?_) hHeld ?_
      rotate_left
      · simp only [List.getElem?_toArray, List.getElem?_cons_zero, List.getElem?_cons_succ, Option.some.injEq] at ho
        subst ho
        refine ⟨by rfl, fun w hSw => ?_⟩
        (try dsimp only at hSw)
        go_simp
        try with_reducible rfl
      try simp only [Act.put, List.setIfInBounds_toArray, List.set_cons_zero, List.set_cons_succ]
      refine held_take (i := 4) (d := some 63) (v := ?_) (by kernel_rfl) (by kernel_rfl) (by kernel_rfl) (by kernel_rfl) (fun _ _ _ h => h) (fun o ho => ?_) hHeld ?_
      rotate_left
      · simp only [List.getElem?_toArray, List.getElem?_cons_zero, List.getElem?_cons_succ, Option.some.injEq] at ho
        subst ho
        refine ⟨by rfl, fun w hSw => ?_⟩
        obtain ⟨hS1, hS2⟩ := hSw
        obtain ⟨z0, z1, z2, z3, z4, z5, z6, z7⟩ := round_cells hS1
        obtain ⟨y0, y1, y2, y3, y4, y5⟩ := house_cells hS2
        clear hS1 hS2
        go_simp
        try with_reducible rfl
      try simp only [Act.put, List.setIfInBounds_toArray, List.set_cons_zero, List.set_cons_succ]
      refine held_take (i := 5) (d := some 64) (v := ?_) (by kernel_rfl) (by kernel_rfl) (by kernel_rfl) (by kernel_rfl) (fun _ _ _ h => h) (fun o ho => ?_) hHeld ?_
      rotate_left
      · simp only [List.getElem?_toArray, List.getElem?_cons_zero, List.getElem?_cons_succ, Option.some.injEq] at ho
        subst ho
        refine ⟨by rfl, fun w hSw => ?_⟩
        (try dsimp only at hSw)
        go_simp
        try with_reducible rfl
      try simp only [Act.put, List.setIfInBounds_toArray, List.set_cons_zero, List.set_cons_succ]
      refine held_take (i := 6) (d := some 65) (v := ?_) (by kernel_rfl) (by kernel_rfl) (by kernel_rfl) (by kernel_rfl) (fun _ _ _ h => h) (fun o ho => ?_) hHeld ?_
      rotate_left
      · simp only [List.getElem?_toArray, List.getElem?_cons_zero, List.getElem?_cons_succ, Option.some.injEq] at ho
        subst ho
        refine ⟨by rfl, fun w hSw => ?_⟩
        obtain ⟨hS1, hS2⟩ := hSw
        obtain ⟨z0, z1, z2, z3, z4, z5, z6, z7⟩ := round_cells hS1
        obtain ⟨y0, y1, y2, y3, y4, y5⟩ := house_cells hS2
        clear hS1 hS2
        go_simp
        try with_reducible rfl
      try simp only [Act.put, List.setIfInBounds_toArray, List.set_cons_zero, List.set_cons_succ]
      refine held_take (i := 8) (d := some 67) (v := ?_) (by kernel_rfl) (by kernel_rfl) (by kernel_rfl) (by kernel_rfl) (fun _ _ _ h => h) (fun o ho => ?_) hHeld ?_
      rotate_left
      · simp only [List.getElem?_toArray, List.getElem?_cons_zero, List.getElem?_cons_succ, Option.some.injEq] at ho
        subst ho
        refine ⟨by rfl, fun w hSw => ?_⟩
        (try dsimp only at hSw)
        go_simp
        try with_reducible rfl
      try simp only [Act.put, List.setIfInBounds_toArray, List.set_cons_zero, List.set_cons_succ]
      refine held_take (i := 9) (d := some 68) (v := ?_) (by kernel_rfl) (by kernel_rfl) (by kernel_rfl) (by kernel_rfl) (fun _ _ _ h => h) (fun o ho => ?_) hHeld ?_
      rotate_left
      · simp only [List.getElem?_toArray, List.getElem?_cons_zero, List.getElem?_cons_succ, Option.some.injEq] at ho
        subst ho
        refine ⟨by rfl, fun w hSw => ?_⟩
        obtain ⟨hS1, hS2⟩ := hSw
        obtain ⟨z0, z1, z2, z3, z4, z5, z6, z7⟩ := round_cells hS1
        obtain ⟨y0, y1, y2, y3, y4, y5⟩ := house_cells hS2
        clear hS1 hS2
        go_simp
        try with_reducible rfl
      try simp only [Act.put, List.setIfInBounds_toArray, List.set_cons_zero, List.set_cons_succ]
      refine held_take (i := 10) (d := some 69) (v := ?_) (by kernel_rfl) (by kernel_rfl) (by kernel_rfl) (by kernel_rfl) (fun _ _ _ h => h) (fun o ho => ?_) hHeld ?_
      rotate_left
      · simp only [List.getElem?_toArray, List.getElem?_cons_zero, List.getElem?_cons_succ, Option.some.injEq] at ho
        subst ho
        refine ⟨by rfl, fun w hSw => ?_⟩
        (try dsimp only at hSw)
        go_simp
        try with_reducible rfl
      try simp only [Act.put, List.setIfInBounds_toArray, List.set_cons_zero, List.set_cons_succ]
      refine held_take (i := 11) (d := some 70) (v := ?_) (by kernel_rfl) (by kernel_rfl) (by kernel_rfl) (by kernel_rfl) (fun _ _ _ h => h) (fun o ho => ?_) hHeld ?_
      rotate_left
      · simp only [List.getElem?_toArray, List.getElem?_cons_zero, List.getElem?_cons_succ, Option.some.injEq] at ho
        subst ho
        refine ⟨by rfl, fun w hSw => ?_⟩
        obtain ⟨hS1, hS2⟩ := hSw
        obtain ⟨z0, z1, z2, z3, z4, z5, z6, z7⟩ := round_cells hS1
        obtain ⟨y0, y1, y2, y3, y4, y5⟩ := house_cells hS2
        clear hS1 hS2
        go_simp
        try with_reducible rfl
      try simp only [Act.put, List.setIfInBounds_toArray, List.set_cons_zero, List.set_cons_succ]
      refine held_take (i := 12) (d := some 71) (v := ?_) (by kernel_rfl) (by kernel_rfl) (by kernel_rfl) (by kernel_rfl) (fun _ _ _ h => h) (fun o ho => ?_) hHeld ?_
      rotate_left
      · simp only [List.getElem?_toArray, List.getElem?_cons_zero, List.getElem?_cons_succ, Option.some.injEq] at ho
        subst ho
        refine ⟨by rfl, fun w hSw => ?_⟩
        (try dsimp only at hSw)
        go_simp
        try with_reducible rfl
      try simp only [Act.put, List.setIfInBounds_toArray, List.set_cons_zero, List.set_cons_succ]
      refine held_take (i := 13) (d := some 72) (v := ?_) (by kernel_rfl) (by kernel_rfl) (by kernel_rfl) (by kernel_rfl) (fun _ _ _ h => h) (fun o ho => ?_) hHeld ?_
      rotate_left
      · simp only [List.getElem?_toArray, List.getElem?_cons_zero, List.getElem?_cons_succ, Option.some.injEq] at ho
        subst ho
        refine ⟨by rfl, fun w hSw => ?_⟩
        obtain ⟨hS1, hS2⟩ := hSw
        obtain ⟨z0, z1, z2, z3, z4, z5, z6, z7⟩ := round_cells hS1
        obtain ⟨y0, y1, y2, y3, y4, y5⟩ := house_cells hS2
        clear hS1 hS2
        go_simp
        try with_reducible rfl
      try simp only [Act.put, List.setIfInBounds_toArray, List.set_cons_zero, List.set_cons_succ]
      refine held_take (i := 14) (d := some 73) (v := ?_) (by kernel_rfl) (by kernel_rfl) (by kernel_rfl) (by kernel_rfl) (fun _ _ _ h => h) (fun o ho => ?_) hHeld ?_
      rotate_left
      · simp only [List.getElem?_toArray, List.getElem?_cons_zero, List.getElem?_cons_succ, Option.some.injEq] at ho
        subst ho
        refine ⟨by rfl, fun w hSw => ?_⟩
        (try dsimp only at hSw)
        go_simp
        try with_reducible rfl
      try simp only [Act.put, List.setIfInBounds_toArray, List.set_cons_zero, List.set_cons_succ]
      refine wpAnyH_ready (rs := [7]) (by kernel_rfl) (by simp) ?_
      refine held_step (i := 7) (by kernel_rfl) (fun o ho K' hK => ?_) ?_
      · simp only [List.getElem?_toArray, List.getElem?_cons_zero, List.getElem?_cons_succ, Option.some.injEq] at ho
        subst ho
        go_simp
        go_at_call 10
        refine (ecounts_any x.full x.miss x.cards _ hbx1 hbx2).mono ?_
        rintro e w3 ⟨rfl, hx3⟩
        have hS3 := Lib.hid (And.intro ((hx3.block hltb).trans HS0.out.1) ((hx3.block hlth).trans HS0.out.2))
        refine hK.out _ _ ?_ (fun hHeld => ?_)
        · exact hS3.out
        clear hK K'
        try simp only [List.setIfInBounds_toArray, List.set_cons_zero, List.set_cons_succ]
        refine wpAnyH_ready (rs := [15]) (by kernel_rfl) (by simp) ?_
        refine held_step (i := 15) (by kernel_rfl) (fun o ho K' hK => ?_) ?_
        · simp only [List.getElem?_toArray, List.getElem?_cons_zero, List.getElem?_cons_succ, Option.some.injEq] at ho
          subst ho
          go_simp
          go_at_call 10
          refine (ecounts_any x.loose x.miss (r.per - 1) _ hbx3 hbx2).mono ?_
          rintro e w4 ⟨rfl, hx4⟩
          have hS4 := Lib.hid (And.intro ((hx4.block (lt_of_heap hS3.out.1)).trans hS3.out.1) ((hx4.block (lt_of_heap hS3.out.2)).trans hS3.out.2))
          have hxr4 := (HXH.out.trans hx3).trans hx4
          refine hK.out _ _ ?_ (fun hHeld => ?_)
          · exact hS4.out
          clear hK K'
          try simp only [List.setIfInBounds_toArray, List.set_cons_zero, List.set_cons_succ]
          refine wpAnyH_ready (rs := [16]) (by kernel_rfl) (by simp) ?_
          refine held_step (i := 16) (by kernel_rfl) (fun o ho K' hK => ?_) ?_
          · simp only [List.getElem?_toArray, List.getElem?_cons_zero, List.getElem?_cons_succ, Option.some.injEq] at ho
            subst ho
            go_simp
            refine hK.out _ _ ?_ (fun hHeld => ?_)
            · exact ⟨(Below.heap_alloc _ _ _ (lt_of_heap hS4.out.1)).trans hS4.out.1, (Below.heap_alloc _ _ _ (lt_of_heap hS4.out.2)).trans hS4.out.2⟩
            clear hK K'
            try simp only [List.setIfInBounds_toArray, List.set_cons_zero, List.set_cons_succ]
            refine wpAnyH_ready (rs := [17]) (by kernel_rfl) (by simp) ?_
            refine held_step (i := 17) (by kernel_rfl) (fun o ho K' hK => ?_) ?_
            · simp only [List.getElem?_toArray, List.getElem?_cons_zero, List.getElem?_cons_succ, Option.some.injEq] at ho
              subst ho
              refine step_push_n (q := 1) E_spans (by rfl) _ _ (by rfl) (w.heap.size + 1) (by rfl) (owns_ext HO.out hxr4) (by rfl) (by rfl) (by rfl) (by unfold maxLen; omega) (by simp [Value.oneCell']) ?_ HSZ.out.1 HSZ.out.2 (by have := hxr4.size; omega)
              intro g cap w5 hown5 hg5 hloc5
              have hS5 := Lib.hid (And.intro (kept_push hg5 hS4.out.1 (owns_block HO.out) (Nat.lt_succ_self _)) ((hg5.block wr.heap.size (by rw [World.size_alloc]; exact Nat.lt_succ_of_lt (lt_of_heap hS4.out.2)) (fun e => by have := HOL.out _ e.symm; omega)).trans ((Below.heap_alloc _ _ _ (lt_of_heap hS4.out.2)).trans hS4.out.2)))
              have hx5 := ((hx.trans hxr4).alloc (.cells #[.int .i64 (cntS x.full x.miss x.cards).1, .int .i64 (cntS x.full x.miss x.cards).2, .int .i64 (cntS x.loose x.miss (r.per - 1)).1, .int .i64 (cntS x.loose x.miss (r.per - 1)).2] 23)).grown hg5 (fun k hk => by have := owns_block HO.out k hk; omega)
              have HO5 := Lib.hid hown5
              clear hown5 hg5 hloc5
              refine hK.out _ _ ?_ (fun hHeld => ?_)
              · exact hS5.out
              clear hK K'
              refine wpAnyH_ready (rs := [18]) (by kernel_rfl) (by simp) ?_
              refine held_step (i := 18) (by kernel_rfl) (fun o ho K' hK => ?_) ?_
              · simp only [List.getElem?_toArray, List.getElem?_cons_zero, List.getElem?_cons_succ, Option.some.injEq] at ho
                subst ho
                go_simp
                refine hK.out _ _ ?_ (fun hHeld => ?_)
                · exact hS5.out
                clear hK K'
                try simp only [List.setIfInBounds_toArray, List.set_cons_zero, List.set_cons_succ]
                refine wpAnyH_done (by kernel_rfl) ?_ _
                try simp only [List.setIfInBounds_toArray, List.set_cons_zero, List.set_cons_succ]
                go_wp2
                refine ⟨⟨k + 1, by omega, by go_num, HUP.out _ _ _ HO5.out, hx5, hS5.out.1⟩, by simp [intOf]; omega⟩
              exact AllReadyH.nil
            exact AllReadyH.nil
          exact AllReadyH.nil
        exact AllReadyH.nil
      exact AllReadyH.nil
    · have hke : k = r.houses.length := by omega
      subst hke
      have x2 : decide ((r.houses.length : Int) < (r.houses.length : Int)) = false := by simp
      obtain ⟨n', hn'⟩ : ∃ n', 2 * r.houses.length = n' + 1 := ⟨2 * r.houses.length - 1, by omega⟩
      have hSP : Hid (wr.ownsRow (w.heap.size + 1) 23 2 u4 (2 * r.houses.length) ((spansE r).flatMap spanCells)) := by
        have h9 := HO.out
        rw [List.take_of_length_le (by rw [spansE_length]; omega)] at h9
        exact h9
      obtain ⟨gs, cs, hu4⟩ : ∃ gs cs, u4 = .slice (some ⟨gs, 0, none⟩) (2 * r.houses.length) cs := by
        have h9 := hSP.out
        rw [hn'] at h9 ⊢
        exact owns_succ h9
      subst hu4
      have hSC : Hid (∀ i p, (spansE r)[i]? = some p → wr.cell? ⟨gs, i * 2, none⟩ = some (.int .i64 p.1) ∧ wr.cell? ⟨gs, i * 2 + 1, none⟩ = some (.int .i64 p.2)) := fun i p hp => by
        have hl := (List.getElem?_eq_some_iff.1 hp).1
        rw [spansE_length] at hl
        have e0 := hSP.out.cellAt (i * 2) (by omega)
        have e1 := hSP.out.cellAt (i * 2 + 1) (by omega)
        have f0 := flatMap_at spanCells 2 (fun _ => rfl) (spansE r) i 0 p hp (by omega)
        have f1 := flatMap_at spanCells 2 (fun _ => rfl) (spansE r) i 1 p hp (by omega)
        exact ⟨e0.trans f0, e1.trans f1⟩
      have HXA := Lib.hid hx
      have HBA := Lib.hid hbx.out
      have hgs := (World.ownsRow.lt hSP.out gs rfl)
      have HGS := Lib.hid hgs
      clear hn' HO hgs hx hbx hlt hk
      obtain ⟨wA, hwA⟩ : ∃ wA : World, wA = wr := ⟨_, rfl⟩
      subst hwA
      go_wp2
      go_loopw [3, 7, 8] (fun mv av i wr => ∃ k : Nat, k ≤ 2 * r.houses.length ∧ i = .int .i64 k ∧ mv = .int .i64 (manyUp (r.hi - r.lo + 1) ((spansE r).take k)) ∧ wr.ownsRow wA.heap.size 3 1 av k (((lowsE (spansE r)).take k).map (.int .i64)) ∧ Ext wA wr) (fun _ _ i _ => 2 * r.houses.length - (intOf i).toNat)
      case atStart => exact ⟨0, Nat.zero_le _, rfl, rfl, World.ownsRow_nil _ _ _ _, Ext.refl _⟩
      case round =>
        obtain ⟨k, hk, rfl, rfl, hown, hx⟩ := hrel
        have HO := Lib.hid hown
        have HX := Lib.hid hx
        clear hown
        by_cases hlt : k < 2 * r.houses.length
        · obtain ⟨p, hp⟩ : ∃ p, Hid ((spansE r)[k]? = some p) := ⟨_, List.getElem?_eq_getElem (by rw [spansE_length]; exact hlt)⟩
          obtain ⟨c0, c1⟩ := hSC.out k p hp.out
          have d0 := hx.cell c0
          have d1 := hx.cell c1
          obtain ⟨-, q2, q3, q4, q5, q6⟩ := mem_spansE HBB.out (List.mem_of_getElem? hp.out)
          have b1 := many_bd HBB.out k
          have b2 := many_bd HBB.out (k + 1)
          rw [List.take_add_one, hp.out, Option.toList_some, manyUp_snoc] at b2
          have HMU : Hid (manyUp (r.hi - r.lo + 1) ((spansE r).take (k + 1)) = manyUp (r.hi - r.lo + 1) ((spansE r).take k) * max 0 (p.2 - p.1 + 1)) := by unfold Hid; rw [List.take_add_one, hp.out, Option.toList_some, manyUp_snoc]; rfl
          have b2' : 0 ≤ manyUp (r.hi - r.lo + 1) ((spansE r).take k) * max 0 (p.2 - p.1 + 1) ∧ manyUp (r.hi - r.lo + 1) ((spansE r).take k) * max 0 (p.2 - p.1 + 1) ≤ 5 * 5764801 := b2
          have HLO : Hid ((lowsE (spansE r)).take (k + 1) = (lowsE (spansE r)).take k ++ [p.1]) := by
            unfold Hid lowsE; rw [List.take_add_one, List.getElem?_map, hp.out]; rfl
          have F1 : IntKind.i64.wrap (p.2 - p.1) = p.2 - p.1 := IntWalk.i64_in _ (by omega)
          have F2 : IntKind.i64.wrap (p.2 - p.1 + 1) = p.2 - p.1 + 1 := IntWalk.i64_in _ (by omega)
          have F3 : IntKind.i64.wrap (manyUp (r.hi - r.lo + 1) ((spansE r).take k) * max 0 (p.2 - p.1 + 1)) = manyUp (r.hi - r.lo + 1) ((spansE r).take k) * max 0 (p.2 - p.1 + 1) := IntWalk.i64_in _ (by omega)
          have x2 : decide ((k : Int) < 2 * (r.houses.length : Int)) = true := by simp; omega
          have x3 : (k : Int) < 2 * (r.houses.length : Int) := by omega
          have x4 : k < 2 * r.houses.length := by omega
          have hs1 : k + 1 ≤ maxLen ∧ (k + 1) * 8 ≤ 140737488355328 := by unfold maxLen; omega
          have HS1 := Lib.hid hs1
          have hzz := hx.size
          clear c0 c1 q2 q3 q4 q5 q6 b1 b2 b2' hs1
          generalize manyUp (r.hi - r.lo + 1) ((spansE r).take k) = M at *
          go_wp2
          go_quiet (fail)
          go_wp2_with (at_builtin; refine wpList_push_at E_ints rfl _ _ rfl wA.heap.size rfl (owns_ext HO.out ((Ext.refl wr).drewN _)) rfl rfl rfl (by simp [Value.oneCell']) ?_ HS1.out.1 HS1.out.2 (by simpa using hzz); intro g4 cap4 w4 hown4 hext4 hg4 hloc4; have hx4 := hext4 _ (HX.out.drewN _) (Nat.le_refl _); have HO4 := Lib.hid hown4; clear hown4 hext4 hg4 hloc4)
          refine ⟨⟨k + 1, by omega, by go_num, by rw [HMU.out], by rw [HLO.out, List.map_append]; exact HO4.out, hx4⟩, by simp [intOf]; omega⟩
        · have hke : k = 2 * r.houses.length := by omega
          subst hke
          have x2 : decide (2 * (r.houses.length : Int) < 2 * (r.houses.length : Int)) = false := by simp
          have HM : Hid (manyUp (r.hi - r.lo + 1) ((spansE r).take (2 * r.houses.length)) = manyUp (r.hi - r.lo + 1) (spansE r)) := by unfold Hid; rw [List.take_of_length_le (by rw [spansE_length]; omega)]
          rw [HM.out]
          have hOA : Hid (wr.ownsRow wA.heap.size 3 1 u7 (2 * r.houses.length) ((lowsE (spansE r)).map (.int .i64))) := by
            have h9 := HO.out
            rw [List.take_of_length_le (by unfold lowsE; rw [List.length_map, spansE_length]; omega)] at h9
            exact h9
          obtain ⟨n', hn'⟩ : ∃ n', 2 * r.houses.length = n' + 1 := ⟨2 * r.houses.length - 1, by omega⟩
          obtain ⟨ga, ca, hu7⟩ : ∃ ga ca, u7 = .slice (some ⟨ga, 0, none⟩) (2 * r.houses.length) ca := by
            have h9 := hOA.out
            rw [hn'] at h9 ⊢
            exact owns_succ h9
          subst hu7
          clear hn' HO
          obtain ⟨M, hM⟩ : ∃ M, manyUp (r.hi - r.lo + 1) (spansE r) = M := ⟨_, rfl⟩
          rw [hM]
          have HMM := Lib.hid hM
          have hMb := many_bd HBB.out (2 * r.houses.length)
          rw [HM.out, hM] at hMb
          clear hM HM
          have hyr := HXA.out.trans hx
          have HYR : Hid (Ext (w.alloc (boxD r a c)) w2) := hy2
          have hbr : Hid (wr.heap[w.heap.size]? = some (.cells #[.int .i64 r.per, .int .i64 r.lo, .int .i64 r.hi, .int .i64 r.card, .int .i64 r.slack, .slice a r.houses.length c, .int .i64 r.all, .int .i64 r.off] 26 (0, 0))) := (hx.block (lt_of_heap HBA.out)).trans HBA.out
          have HBR := Lib.hid (fun W (h : Ext wr W) => round_cells ((h.block (lt_of_heap hbr.out)).trans hbr.out))
          have HKN := Lib.hid (fun w1 (hx : Ext w w1) => lknown_any w1 (HTT.out.ext hx))
          clear z0 z1 z2 z3 z4 z5 z6 z7
          by_cases h700 : 700 < M
          · have m1 : decide (700 < M) = true := by simpa using h700
            go_wp2_with (go_at_call 9; refine (HKN.out _ hyr).mono ?_; rintro e wk ⟨rfl, hxk⟩)
            go_ret
            exact ⟨rfl, hyr.trans hxk⟩
          · have m1 : decide (700 < M) = false := by simpa using h700
            obtain ⟨z0, z1, z2, z3, z4, z5, z6, z7⟩ := HBR.out _ (Ext.refl wr)
            obtain ⟨i0, hi0, hz0, hz1, hb0⟩ := info_parts info_span
            have hsb : i0.bytes * r.houses.length ≤ 281474976710656 ∧ r.houses.length ≤ maxLen := by unfold maxLen; rw [hb0]; omega
            have HSB := Lib.hid hsb
            clear hsb
            have HAGR := Lib.hid (fun w1 (hx : Ext w w1) => agreeE_any _ r w1 (HRA.out.ext hx) hbb.out)
            have HKNO := Lib.hid (fun w1 (hx : Ext w w1) => knownE_any _ r w1 (HRA.out.ext hx) hbb.out)
            have HTOT := Lib.hid (fun w1 (hx : Ext w w1) => (total_any _ r w1 (HRA.out.ext hx)).mono (fun e w' h => spanE_of hbb.out h))
            have HBUT := Lib.hid (fun w1 (hx : Ext w w1) => (buttonsSpan_any _ r w1 (HRA.out.ext hx)).mono (fun e w' h => spanE_of hbb.out h))
            go_wp2_with (first
              | (go_at_call 11; refine (HAGR.out _ hyr).mono ?_; rintro e w3 ⟨rfl, hx3⟩; have hv3 := hx3; clear z0 z1 z2 z3 z4 z5 z6 z7; obtain ⟨z0, z1, z2, z3, z4, z5, z6, z7⟩ := HBR.out _ hv3)
              | (go_at_call 12; refine (HKNO.out _ (hyr.trans hv3)).mono ?_; rintro e w4 ⟨ak, nk, ck, ek, rfl, hx4, hek, hok⟩; have hv4 := hv3.trans hx4; have HEK := Lib.hid hek; have HOK := Lib.hid hok; clear hek hok z0 z1 z2 z3 z4 z5 z6 z7; obtain ⟨z0, z1, z2, z3, z4, z5, z6, z7⟩ := HBR.out _ hv4)
              | (go_at_call 13; refine (HTOT.out _ (hyr.trans hv4)).mono ?_; rintro e w5 ⟨s1, s2, es, rfl, hx5, hes, hqs⟩; have hv5 := (hv4.trans hx5).alloc (.cells #[.int .i64 s1, .int .i64 s2] 23); have HES := Lib.hid hes; have HQS := Lib.hid hqs; clear hes hqs z0 z1 z2 z3 z4 z5 z6 z7; obtain ⟨z0, z1, z2, z3, z4, z5, z6, z7⟩ := HBR.out _ hv5)
              | (go_at_call 14; refine (HBUT.out _ (hyr.trans hv5)).mono ?_; rintro e w6 ⟨b1, b2, eb, rfl, hx6, heb, hqb⟩; have HZ6 : Hid (w.heap.size + 1 ≤ w6.heap.size + 1) := (by have h1 := hv5.size; have h2 := hx6.size; have h3 := hyr.size; unfold Hid; omega); have hv6 := (hv5.trans hx6).alloc (.cells #[.int .i64 b1, .int .i64 b2] 23); have HEB := Lib.hid heb; have HQB := Lib.hid hqb; clear heb hqb z0 z1 z2 z3 z4 z5 z6 z7; obtain ⟨z0, z1, z2, z3, z4, z5, z6, z7⟩ := HBR.out _ hv6)
              | (refine wpList_make_full _ rfl _ _ _ rfl (w6.heap.size + 1) _ i0 _ 2 Tryz.underlying29 hi0 hz0 hz1 .i64 .i64 _ _ r.houses.length rfl rfl rfl rfl HSB.out.1 HSB.out.2 (by simp) ?_; intro w7 hown7 hg7; have HG7 := Lib.hid hg7; have hv7 := hv6.grown hg7 (fun k h => by cases h); rw [made_spans hn2] at hown7; simp only [World.size_alloc] at hown7; have HO7 := Lib.hid hown7; clear hown7 z0 z1 z2 z3 z4 z5 z6 z7))
            rename_i K hK
            have HK := Lib.hid hK
            have hx67 : Ext (w6.alloc (.cells #[.int .i64 b1, .int .i64 b2] 23)) w7 := (Ext.refl _).grown HG7.out (fun k h => by cases h)
            have hv8 : Ext wr ((w7.alloc (.cells #[.int .i64 0, .int .i64 0] 23)).alloc (.cells #[.int .i64 0, .int .i64 0] 23)) := (hv7.alloc _).alloc _
            have hlga := World.ownsRow.lt hOA.out ga rfl
            have hlgo := World.ownsRow.lt HO7.out (w6.heap.size + 1) rfl
            have hs3 := hx3.size
            have hs4 := hx4.size
            have hs5 := hx5.size
            have hs6 := hx6.size
            have hs67 := hx67.size
            simp only [World.size_alloc] at hs6 hs67
            have hsA := hx.size
            have hctx : EndsCtx r w ((w7.alloc (.cells #[.int .i64 0, .int .i64 0] 23)).alloc (.cells #[.int .i64 0, .int .i64 0] 23)) a c gs cs ga ca (w6.heap.size + 1) w7.heap.size := {
              hB := HBB.out
              hb := hbb.out
              hra := HRA.out
              hx := hyr.trans hv8
              hbr := (hv8.block (lt_of_heap hbr.out)).trans hbr.out
              hsp := fun i p hp => ⟨(hx.trans hv8).cell (hSC.out i p hp).1, (hx.trans hv8).cell (hSC.out i p hp).2⟩
              o1 := by have := HGS.out.1; omega
              o2 := by have := HGS.out.2; omega
              o3 := by omega
              o4 := hlgo.2
              o5 := by simp }
            have HCT := Lib.hid hctx
            have HOAT := Lib.hid (owns_ext hOA.out hv8)
            have HOWN := Lib.hid (owns_ext HO7.out (((Ext.refl w7).alloc (.cells #[.int .i64 0, .int .i64 0] 23)).alloc (.cells #[.int .i64 0, .int .i64 0] 23)))
            have hZZ := two_new w7 (.cells #[.int .i64 0, .int .i64 0] 23) (.cells #[.int .i64 0, .int .i64 0] 23)
            have HZZ := Lib.hid hZZ
            have HB13 : Hid (((w7.alloc (.cells #[.int .i64 0, .int .i64 0] 23)).alloc (.cells #[.int .i64 0, .int .i64 0] 23)).heap[w5.heap.size]? = some (boxP2 (s1, s2))) := by
              have e1 := World.alloc_heap_new w5 (.cells #[.int .i64 s1, .int .i64 s2] 23)
              have hxx := (((hx6.alloc (.cells #[.int .i64 b1, .int .i64 b2] 23)).trans hx67).alloc (.cells #[.int .i64 0, .int .i64 0] 23)).alloc (.cells #[.int .i64 0, .int .i64 0] 23)
              exact (hxx.block (by simp)).trans e1
            have HB15 : Hid (((w7.alloc (.cells #[.int .i64 0, .int .i64 0] 23)).alloc (.cells #[.int .i64 0, .int .i64 0] 23)).heap[w6.heap.size]? = some (boxP2 (b1, b2))) := by
              have e1 := World.alloc_heap_new w6 (.cells #[.int .i64 b1, .int .i64 b2] 23)
              have hxx := (hx67.alloc (.cells #[.int .i64 0, .int .i64 0] 23)).alloc (.cells #[.int .i64 0, .int .i64 0] 23)
              exact (hxx.block (by simp)).trans e1
            have hx48 : Ext w4 ((w7.alloc (.cells #[.int .i64 0, .int .i64 0] 23)).alloc (.cells #[.int .i64 0, .int .i64 0] 23)) := ((((((hx5.alloc (.cells #[.int .i64 s1, .int .i64 s2] 23)).trans hx6).alloc (.cells #[.int .i64 b1, .int .i64 b2] 23)).trans hx67).alloc _).alloc _)
            have HX48 := Lib.hid hx48
            have HX08 := Lib.hid (hyr.trans hv8)
            have HKN2 := Lib.hid (fun w1 (hx : Ext w w1) => lknown_any w1 (HTT.out.ext hx))
            have hm1 : decide (0 < M) = true → ∀ p, p ∈ spansE r → p.1 ≤ p.2 := fun h => by
              rw [decide_eq_true_eq, ← HMM.out] at h
              exact (many_pos (by omega) h).2
            have hm0 : decide (0 < M) = false → ∀ a w, ¬ TriedE r a w := fun h a w => by
              rw [decide_eq_false_iff_not, ← HMM.out] at h
              exact none_tried (by omega) h a w
            clear hK hx67 hctx hZZ hx48
            refine ends_great r w ((w7.alloc (.cells #[.int .i64 0, .int .i64 0] 23)).alloc (.cells #[.int .i64 0, .int .i64 0] 23)) a c gs cs ga ca (w6.heap.size + 1) w7.heap.size HCT.out (decide (0 < M)) wA.heap.size (w6.heap.size + 1) _ _ _ _ _ _ _ _ _ _ _ _ _ _ _ _ _ _ _ _ _ _ _ _ _ _ _ _ _ _ _ _ _ _ _ _ _ _ _ _ _ _ _ _ _ _ _ _ _ _ _ _ _ _ _ _ _ _ _ _ _ _ _ _ _ _ _ _ _ _ _ _ _ _ _ _ _ _ _ _ _ _ _ _ _ _ _ _ _ _ _ _ _ _ _ _ _ _ _ _ _ _ _ _ _ _ _ _ _ _ _ _ _ _ _ _ _ _ _ _ _ _ _ _ _ _ _ _ _ _ _ _ _ _ _ _ _ _ _ _ _ _ _ _ _ _ _ _ _ _ _ _ _ _ _ _ _ _ _ _ _ _ _ _ _ _ _ _ _ _ _ _ _ _ _ _ _ _ _ _ _ _ _ _ _ _ _ _ _ _ _ _ _ _ _ _ _ _ _ _ _ _ _ _ _ _ _ _ _ _ _ _ _ _ _ _ _ _ _ _ _ _ _ _ _ _ _ _ _ _ _ _ _ _ _ _ _ _ _ _ _ _ _ _ _ _ _ _ _ _ _ _ _ _ _ _ _ _ _ _ _ _ _ _ _ _ _ _ _ _ _ _ _ _ _ _ _ _ _ _ _ _ _ _ _ _ _ _ _ _ _ _ _ _ _ _ _ _ _ _ _ _ _ _ _ _ _ _ _ _ _ _ _ _ _ _ _ _ _ HOAT.out HOWN.out HZZ.out.1 HZZ.out.2 hm1 hm0 (fun y2 y21 y22 y23 y24 y25 y26 y27 y28 y29 y135 y136 y137 y138 y139 y140 y141 y142 y143 y144 y145 y146 y147 y148 y149 y150 y151 y152 y153 y154 y155 y156 y157 y158 y159 y160 y161 y162 y163 y164 y165 y166 y167 y168 y169 y170 y171 y172 y173 y174 y175 y176 y177 y178 y179 y180 y181 y182 y183 y184 y185 y186 y187 y188 y189 y190 y191 y192 y193 y194 y195 y196 y197 y198 y199 y200 y201 y202 y203 y204 y205 y206 y207 y208 y209 y210 y211 y212 y213 y214 y215 y216 y217 y218 y219 y220 y221 y222 y223 y224 y225 y226 y227 y228 y229 y230 y231 y232 y233 y234 y235 y236 y237 y238 y239 y240 y241 y242 y243 y244 y245 y246 y247 y248 y249 y250 y251 y252 y253 y254 y255 y256 y257 y258 y259 y260 y261 y262 y263 y264 y265 y266 y267 y268 y269 y270 y271 y272 y273 y274 y275 y276 own su we met W9 hacc how9 hbs9 hbw9 ht9 => ?_)
            refine HK.out _ _ ?_
            have hxw9 : Ext w W9 := Touch.ext HX08.out ht9 (fun k hk => by unfold EndsM at hk; have := hyr.size; omega)
            obtain ⟨hmet, hall⟩ := acc_all HBB.out hacc
            have HB13' := Lib.hid (ht9.keep _ _ HB13.out (by unfold EndsM; omega))
            have HB15' := Lib.hid (ht9.keep _ _ HB15.out (by unfold EndsM; omega))
            have HXW9 := Lib.hid hxw9
            have hmb : (agreeB r (-1) != agreeB r (-1)) = false := by simp
            rw [hmet]
            cases ha : agreeB r (-1) with
            | false =>
              have e1 := HEK.out.2 ha
              have e2 := HES.out.2 ha
              have e3 := HEB.out.2 ha
              subst e1 e2 e3
              clear hacc how9 hbs9 hbw9 ht9 hall hmet hmb
              go_wp2_with (go_at_call 9; refine (HKN2.out _ HXW9.out).mono ?_; rintro e wk ⟨rfl, hxk⟩)
              go_ret
              exact ⟨rfl, HXW9.out.trans hxk⟩
            | true =>
              have e1 := HEK.out.1 ha
              have e2 := HES.out.1 ha
              have e3 := HEB.out.1 ha
              subst e1 e2 e3
              obtain ⟨q1, q2, q3⟩ := hall (hmet.trans ha)
              have hk4 := HOK.out ha
              have hnk : nk = r.houses.length := by
                obtain ⟨a', c', e, _⟩ := RowAt.of_owns hk4
                cases e; rfl
              subst hnk
              have hkat : SpansAt W9 (.slice ak r.houses.length ck) (knownL r) := by
                have h9 := RowAt.touch (RowAt.ext (RowAt.of_owns hk4) HX48.out) ht9 (fun a n c e hm => by
                  cases e
                  have h7 := hown_block hk4
                  have h8 := (World.ownsRow.lt hk4 _ rfl).2
                  unfold EndsM at hm
                  omega)
                unfold SpansAt
                rw [knownL_length]
                exact h9
              have hoat : SpansAt W9 (.slice (some ⟨w6.heap.size + 1, 0, none⟩) r.houses.length r.houses.length) (knownL r) := by
                have h9 := RowAt.of_owns how9
                rw [q1] at h9
                unfold SpansAt
                rw [knownL_length]
                exact h9
              have HSS := Lib.hid (sameSpans_any _ _ (knownL r) (knownL r) W9 hkat hoat)
              rw [decide_eq_true (rfl : knownL r = knownL r)] at HSS
              have f13 := HQS.out ha
              have f15 := HQB.out ha
              rw [q2, ← f13] at hbs9
              rw [q3, show spanOf (butsL r (-1)) = weightL r from rfl, ← f15] at hbw9
              have HBB9 := Lib.hid (And.intro hbs9 hbw9)
              have hsq := fun (w : World) => span_eql s1 s2 s1 s2 w
              have hbq := fun (w : World) => span_eql b1 b2 b1 b2 w
              simp only [beq_self_eq_true, Bool.and_self] at hsq hbq
              clear hacc how9 hbs9 hbw9 ht9 hall hmet hmb q1 q2 q3 hk4 hkat hoat f13 f15 hm1 hm0 hs3 hs4 hs5 hs6 hs67 hsA hlga hlgo ha
              go_wp2_with (first
                | (go_at_call 17; refine HSS.out.mono ?_; rintro e w10 ⟨rfl, hx10⟩; obtain ⟨⟨g0, g1⟩, -, -⟩ := boxP2_cells ((hx10.block (lt_of_heap HB13'.out)).trans HB13'.out); obtain ⟨⟨g2, g3⟩, -, -⟩ := boxP2_cells ((hx10.block (lt_of_heap HB15'.out)).trans HB15'.out); obtain ⟨⟨g4, g5⟩, -, -⟩ := boxP2_cells ((hx10.block (lt_of_heap HBB9.out.1)).trans HBB9.out.1); obtain ⟨⟨g6, g7⟩, -, -⟩ := boxP2_cells ((hx10.block (lt_of_heap HBB9.out.2)).trans HBB9.out.2); have hxw10 := HXW9.out.trans hx10)
                | (go_at_call 9; refine (HKN2.out _ hxw10).mono ?_; rintro e wk ⟨rfl, hxk⟩))
              go_ret
              exact ⟨rfl, hxw10.trans hxk⟩

theorem cardEnds_any (v : Value) (r : Round) (w : World) (hr : RoundAt w v r) (ht : TabOk w) : Calls Tryz.prog 3 #[v] w (TrueP w) := by
  cases hs : slimB r with
  | false => exact endsL_e0 v r w hr ht hs
  | true =>
  cases hb : isRoundB r with
  | false => exact endsL_e1 v r w hr ht hs hb
  | true => exact endsL_main v r w hr ht hs hb
end Go.Proofs.YtbeophjdiddomaaGreatDoor
