/- card.Due where what is kept is not as it should be. -/
import Derived.Test.YtpheidlocijdkaaGreatDoorDues
import Derived.Test.YtpheidlocijdkaaGreatDoorHeldr
namespace Go.Proofs.YtpheidlocijdkaaGreatDoor
open Go.RowKit

set_option maxRecDepth 100000 in
set_option maxHeartbeats 8000000 in
theorem due_bad1 (v kv : Value) (r : Round) (rate : Int) (kept : List Int) (w : World) (hr : RoundAt w v r) (hk : IntsAt w kv kept) (hok : keptOk r rate kept = false) (hq1 : inB rate 0 1000 = false) :
    Calls Tryz.prog 12 #[v, .int .i64 rate, kv] w (DueRes r rate kept w) := by
  obtain ⟨hv, rfl, hh⟩ := hr
  have hr' : RoundAt w (.agg (r.cells hv).toArray) r := ⟨hv, rfl, hh⟩
  obtain ⟨a, c, rfl, h1, h2, _⟩ := hh.open
  obtain ⟨ka, kc, rfl, k1, k2, _⟩ := hk.open
  have hx0 : Ext w (w.alloc (boxD r a c)) := (Ext.refl w).alloc _
  have HX0 := Lib.hid hx0
  have HA := Lib.hid (fun fine w1 (hx : Ext (w.alloc (boxD r a c)) w1) => (asked_any _ r fine w1 (hr'.ext (hx0.trans hx))).mono (fun e w' h => asked_parts h))
  have HB := Lib.hid (fun w1 (hx : Ext (w.alloc (boxD r a c)) w1) => round_cells ((hx.block (by simp)).trans (World.alloc_heap_new w (boxD r a c))))
  have HBK := Lib.hid (fun w1 w2 (b : Nat) (hx : Ext w1 w2) (h : w1.heap[b]? = some (.cells #[.slice none 0 0, .slice none 0 0, .slice none 0 0] 88 (0, 0))) => (hx.block (Array.getElem?_eq_some_iff.1 h).1).trans h)
  unfold Round.cells at *
  have hmix : Tryz.prog.follows .mixedOrders = true := by kernel_rfl
  have HK := Lib.hid hk
  have hbz := World.size_alloc w (boxD r a c)
  have HZ := Lib.hid hbz
  have HOK := Lib.hid hok
  have HIN := Lib.hid (fun w1 => hq1 ▸ in_any rate 0 1000 w1)
  clear hq1
  clear hr' hh hx0 hk hbz hok
  go_enter Tryz.func12, Tryz.ntmps12
  go_upto_region 1 with fail
  go_cut [8, 9] (fun s8 s9 W => DueCut r false w s8 s9 W)
  case first =>
    refine wp_region_held_drew (S := (fun w' => w'.cell? ⟨w.heap.size, 0, none⟩ = some (.int .i64 r.per) ∧ w'.cell? ⟨w.heap.size, 1, none⟩ = some (.int .i64 r.lo) ∧ w'.cell? ⟨w.heap.size, 2, none⟩ = some (.int .i64 r.hi) ∧ w'.cell? ⟨w.heap.size, 3, none⟩ = some (.int .i64 r.card) ∧ w'.cell? ⟨w.heap.size, 4, none⟩ = some (.int .i64 r.slack) ∧ w'.cell? ⟨w.heap.size, 5, none⟩ = some (.slice a r.houses.length c) ∧ w'.cell? ⟨w.heap.size, 6, none⟩ = some (.int .i64 r.all) ∧ w'.cell? ⟨w.heap.size, 7, none⟩ = some (.int .i64 r.off))) (by kernel_rfl) ?_ (fun hHeld => ?_)
    · (first | go_keep | exact HB.out _ (by repeat (first | exact hx02 | exact Ext.refl _ | apply Ext.drew | apply Ext.alloc | refine Ext.setCell ?_ (by rw [HZ.out]; first | (simp; done) | omega) _)))
    refine held_take (i := 0) (d := some 15) (v := ?_) (by kernel_rfl) (by kernel_rfl) (by kernel_rfl) (by kernel_rfl) (fun _ _ _ h => h) (fun o ho => ?_) hHeld ?_
    rotate_left
    · simp only [List.getElem?_toArray, List.getElem?_cons_zero, Option.some.injEq] at ho
      subst ho
      refine ⟨by rfl, fun w hSw => ?_⟩
      (try dsimp only at hSw)
      go_simp
      try with_reducible rfl
    try simp only [Act.put, List.setIfInBounds_toArray, List.set_cons_zero, List.set_cons_succ]
    refine held_take (i := 1) (d := some 16) (v := ?_) (by kernel_rfl) (by kernel_rfl) (by kernel_rfl) (by kernel_rfl) (fun _ _ _ h => h) (fun o ho => ?_) hHeld ?_
    rotate_left
    · simp only [List.getElem?_toArray, List.getElem?_cons_zero, List.getElem?_cons_succ, Option.some.injEq] at ho
      subst ho
      refine ⟨by rfl, fun w hSw => ?_⟩
      (try dsimp only at hSw)
      go_simp
      try with_reducible rfl
    try simp only [Act.put, List.setIfInBounds_toArray, List.set_cons_zero, List.set_cons_succ]
    refine wpAnyH_ready (rs := [2, 20]) (by kernel_rfl) (by simp) ?_
    refine held_step (i := 2) (by kernel_rfl) (fun o ho K' hK => ?_) ?_
    · simp only [List.getElem?_toArray, List.getElem?_cons_zero, List.getElem?_cons_succ, Option.some.injEq] at ho
      subst ho
      go_simp
      go_at_call 57
      refine (HIN.out _).mono ?_
      rintro e w' ⟨rfl, rfl⟩
      try go_wp2_with fail
      refine hK.out _ _ ?_ (fun hHeld => ?_)
      · (first | go_keep | exact HB.out _ (by repeat (first | exact hx02 | exact Ext.refl _ | apply Ext.drew | apply Ext.alloc | refine Ext.setCell ?_ (by rw [HZ.out]; first | (simp; done) | omega) _)))
      clear hK K'
      try simp only [List.setIfInBounds_toArray, List.set_cons_zero, List.set_cons_succ]
      refine held_take (i := 3) (d := some 18) (v := ?_) (by kernel_rfl) (by kernel_rfl) (by kernel_rfl) (by kernel_rfl) (fun _ _ _ h => h) (fun o ho => ?_) hHeld ?_
      rotate_left
      · simp only [List.getElem?_toArray, List.getElem?_cons_zero, List.getElem?_cons_succ, Option.some.injEq] at ho
        subst ho
        refine ⟨by rfl, fun w hSw => ?_⟩
        (try dsimp only at hSw)
        go_simp
        try with_reducible rfl
      try simp only [Act.put, List.setIfInBounds_toArray, List.set_cons_zero, List.set_cons_succ]
      refine held_skips (is := [4, 5, 6, 7, 8, 9]) (k := 6) (l' := #[true, true, true, true, true, true, true, true, true, true, false, false, false, false, false, false, false, false, false, false, false, false, false]) (by kernel_rfl) rfl (by assumption) ?_
      refine held_take (i := 10) (d := some 25) (v := ?_) (by kernel_rfl) (by kernel_rfl) (by kernel_rfl) (by kernel_rfl) (fun _ _ _ h => h) (fun o ho => ?_) hHeld ?_
      rotate_left
      · simp only [List.getElem?_toArray, List.getElem?_cons_zero, List.getElem?_cons_succ, Option.some.injEq] at ho
        subst ho
        refine ⟨by rfl, fun w hSw => ?_⟩
        (try dsimp only at hSw)
        go_simp
        try with_reducible rfl
      try simp only [Act.put, List.setIfInBounds_toArray, List.set_cons_zero, List.set_cons_succ]
      refine held_take (i := 11) (d := some 26) (v := ?_) (by kernel_rfl) (by kernel_rfl) (by kernel_rfl) (by kernel_rfl) (fun _ _ _ h => h) (fun o ho => ?_) hHeld ?_
      rotate_left
      · simp only [List.getElem?_toArray, List.getElem?_cons_zero, List.getElem?_cons_succ, Option.some.injEq] at ho
        subst ho
        refine ⟨by rfl, fun w hSw => ?_⟩
        (try dsimp only at hSw)
        go_simp
        try with_reducible rfl
      try simp only [Act.put, List.setIfInBounds_toArray, List.set_cons_zero, List.set_cons_succ]
      refine held_skips (is := [12, 13, 14]) (k := 3) (l' := #[true, true, true, true, true, true, true, true, true, true, true, true, true, true, true, false, false, false, false, false, false, false, false]) (by kernel_rfl) rfl (by assumption) ?_
      refine held_take (i := 15) (d := some 30) (v := ?_) (by kernel_rfl) (by kernel_rfl) (by kernel_rfl) (by kernel_rfl) (fun _ _ _ h => h) (fun o ho => ?_) hHeld ?_
      rotate_left
      · simp only [List.getElem?_toArray, List.getElem?_cons_zero, List.getElem?_cons_succ, Option.some.injEq] at ho
        subst ho
        refine ⟨by rfl, fun w hSw => ?_⟩
        (try dsimp only at hSw)
        go_simp
        try with_reducible rfl
      try simp only [Act.put, List.setIfInBounds_toArray, List.set_cons_zero, List.set_cons_succ]
      refine wpAnyH_ready (rs := [16, 20]) (by kernel_rfl) (by simp) ?_
      refine held_step (i := 16) (by kernel_rfl) (fun o ho K' hK => ?_) ?_
      · simp only [List.getElem?_toArray, List.getElem?_cons_zero, List.getElem?_cons_succ, Option.some.injEq] at ho
        subst ho
        go_simp
        go_at_call 56
        refine (HA.out false _ (by repeat (first | exact Ext.refl _ | apply Ext.drew | apply Ext.alloc))).mono ?_
        rintro e w2 ⟨x0, x1, x2, err, a0, a1, a2, n0, n1, n2, c0, c1, c2, rfl, rfl, rfl, rfl, hx2, hq⟩
        have HQ := Lib.hid hq
        clear hq
        have hx02 : Ext (w.alloc (boxD r a c)) w2 := (by repeat (first | exact Ext.refl _ | apply Ext.drew | apply Ext.alloc) : Ext _ _).trans hx2
        have hz2 : w.heap.size + 1 ≤ w2.heap.size := by have := hx02.size; rw [HZ.out] at this; exact this
        try go_wp2_with fail
        refine hK.out _ _ ?_ (fun hHeld => ?_)
        · (first | go_keep | exact HB.out _ (by repeat (first | exact hx02 | exact Ext.refl _ | apply Ext.drew | apply Ext.alloc | refine Ext.setCell ?_ (by rw [HZ.out]; first | (simp; done) | omega) _)))
        clear hK K'
        try simp only [List.setIfInBounds_toArray, List.set_cons_zero, List.set_cons_succ]
        refine held_take (i := 17) (d := some 14) (v := ?_) (by kernel_rfl) (by kernel_rfl) (by kernel_rfl) (by kernel_rfl) (fun _ _ _ h => h) (fun o ho => ?_) hHeld ?_
        rotate_left
        · simp only [List.getElem?_toArray, List.getElem?_cons_zero, List.getElem?_cons_succ, Option.some.injEq] at ho
          subst ho
          refine ⟨by rfl, fun w hSw => ?_⟩
          (try dsimp only at hSw)
          go_simp
          try with_reducible rfl
        try simp only [Act.put, List.setIfInBounds_toArray, List.set_cons_zero, List.set_cons_succ]
        refine held_take (i := 18) (d := some 32) (v := ?_) (by kernel_rfl) (by kernel_rfl) (by kernel_rfl) (by kernel_rfl) (fun _ _ _ h => h) (fun o ho => ?_) hHeld ?_
        rotate_left
        · simp only [List.getElem?_toArray, List.getElem?_cons_zero, List.getElem?_cons_succ, Option.some.injEq] at ho
          subst ho
          refine ⟨by rfl, fun w hSw => ?_⟩
          (try dsimp only at hSw)
          go_simp
          try with_reducible rfl
        try simp only [Act.put, List.setIfInBounds_toArray, List.set_cons_zero, List.set_cons_succ]
        refine held_take (i := 19) (d := some 33) (v := ?_) (by kernel_rfl) (by kernel_rfl) (by kernel_rfl) (by kernel_rfl) (fun _ _ _ h => h) (fun o ho => ?_) hHeld ?_
        rotate_left
        · simp only [List.getElem?_toArray, List.getElem?_cons_zero, List.getElem?_cons_succ, Option.some.injEq] at ho
          subst ho
          refine ⟨by rfl, fun w hSw => ?_⟩
          (try dsimp only at hSw)
          go_simp
          try with_reducible rfl
        try simp only [Act.put, List.setIfInBounds_toArray, List.set_cons_zero, List.set_cons_succ]
        refine wpAnyH_ready (rs := [20]) (by kernel_rfl) (by simp) ?_
        refine held_step (i := 20) (by kernel_rfl) (fun o ho K' hK => ?_) ?_
        · simp only [List.getElem?_toArray, List.getElem?_cons_zero, List.getElem?_cons_succ, Option.some.injEq] at ho
          subst ho
          go_simp
          refine hK.out _ _ ?_ (fun hHeld => ?_)
          · (first | go_keep | exact HB.out _ (by repeat (first | exact hx02 | exact Ext.refl _ | apply Ext.drew | apply Ext.alloc | refine Ext.setCell ?_ (by rw [HZ.out]; first | (simp; done) | omega) _)))
          clear hK K'
          try simp only [List.setIfInBounds_toArray, List.set_cons_zero, List.set_cons_succ]
          refine wpAnyH_ready (rs := [21]) (by kernel_rfl) (by simp) ?_
          refine held_step (i := 21) (by kernel_rfl) (fun o ho K' hK => ?_) ?_
          · simp only [List.getElem?_toArray, List.getElem?_cons_zero, List.getElem?_cons_succ, Option.some.injEq] at ho
            subst ho
            go_simp
            refine hK.out _ _ ?_ (fun hHeld => ?_)
            · (first | go_keep | exact HB.out _ (by repeat (first | exact hx02 | exact Ext.refl _ | apply Ext.drew | apply Ext.alloc | refine Ext.setCell ?_ (by rw [HZ.out]; first | (simp; done) | omega) _)))
            clear hK K'
            try simp only [List.setIfInBounds_toArray, List.set_cons_zero, List.set_cons_succ]
            refine wpAnyH_ready (rs := [22]) (by kernel_rfl) (by simp) ?_
            refine held_step (i := 22) (by kernel_rfl) (fun o ho K' hK => ?_) ?_
            · simp only [List.getElem?_toArray, List.getElem?_cons_zero, List.getElem?_cons_succ, Option.some.injEq] at ho
              subst ho
              go_simp
              refine hK.out _ _ ?_ (fun hHeld => ?_)
              · (first | go_keep | exact HB.out _ (by repeat (first | exact hx02 | exact Ext.refl _ | apply Ext.drew | apply Ext.alloc | refine Ext.setCell ?_ (by rw [HZ.out]; first | (simp; done) | omega) _)))
              clear hK K'
              try simp only [List.setIfInBounds_toArray, List.set_cons_zero, List.set_cons_succ]
              refine wpAnyH_done (by kernel_rfl) ?_ _
              try simp only [List.setIfInBounds_toArray, List.set_cons_zero, List.set_cons_succ]
              have hxw2 := HX0.out.trans hx02
              have hzw := hxw2.size
              go_wp2_with fail
              go_meet
              exact dueCut_new hxw2 (by change _ ≤ (World.alloc _ _).heap.size; rw [World.size_alloc]; omega) HQ.out
            exact AllReadyH.nil
          exact AllReadyH.nil
        exact AllReadyH.nil
      refine held_step (i := 20) (by kernel_rfl) (fun o ho K' hK => ?_) ?_
      · simp only [List.getElem?_toArray, List.getElem?_cons_zero, List.getElem?_cons_succ, Option.some.injEq] at ho
        subst ho
        go_simp
        refine hK.out _ _ ?_ (fun hHeld => ?_)
        · (first | go_keep | exact HB.out _ (by repeat (first | exact hx02 | exact Ext.refl _ | apply Ext.drew | apply Ext.alloc | refine Ext.setCell ?_ (by rw [HZ.out]; first | (simp; done) | omega) _)))
        clear hK K'
        try simp only [List.setIfInBounds_toArray, List.set_cons_zero, List.set_cons_succ]
        refine wpAnyH_ready (rs := [16]) (by kernel_rfl) (by simp) ?_
        refine held_step (i := 16) (by kernel_rfl) (fun o ho K' hK => ?_) ?_
        · simp only [List.getElem?_toArray, List.getElem?_cons_zero, List.getElem?_cons_succ, Option.some.injEq] at ho
          subst ho
          go_simp
          go_at_call 56
          refine (HA.out false _ (by repeat (first | exact Ext.refl _ | apply Ext.drew | apply Ext.alloc))).mono ?_
          rintro e w2 ⟨x0, x1, x2, err, a0, a1, a2, n0, n1, n2, c0, c1, c2, rfl, rfl, rfl, rfl, hx2, hq⟩
          have HQ := Lib.hid hq
          clear hq
          have hx02 : Ext (w.alloc (boxD r a c)) w2 := (by repeat (first | exact Ext.refl _ | apply Ext.drew | apply Ext.alloc) : Ext _ _).trans hx2
          have hz2 : w.heap.size + 1 ≤ w2.heap.size := by have := hx02.size; rw [HZ.out] at this; exact this
          have hpB := HBK.out _ w2 (w.heap.size + 1) hx2 (two_new w _ _).2
          obtain ⟨⟨f0, f1, f2⟩, ⟨g0, g1, g2⟩, k1, k2, k3, k4⟩ := box3 hpB (.slice a0 n0 c0) (.slice a1 n1 c1)
          have HPB := Lib.hid hpB
          clear hpB
          try go_wp2_with fail
          refine hK.out _ _ ?_ (fun hHeld => ?_)
          · (first | go_keep | exact HB.out _ (by repeat (first | exact hx02 | exact Ext.refl _ | apply Ext.drew | apply Ext.alloc | refine Ext.setCell ?_ (by rw [HZ.out]; first | (simp; done) | omega) _)))
          clear hK K'
          try simp only [List.setIfInBounds_toArray, List.set_cons_zero, List.set_cons_succ]
          refine held_take (i := 17) (d := some 14) (v := ?_) (by kernel_rfl) (by kernel_rfl) (by kernel_rfl) (by kernel_rfl) (fun _ _ _ h => h) (fun o ho => ?_) hHeld ?_
          rotate_left
          · simp only [List.getElem?_toArray, List.getElem?_cons_zero, List.getElem?_cons_succ, Option.some.injEq] at ho
            subst ho
            refine ⟨by rfl, fun w hSw => ?_⟩
            (try dsimp only at hSw)
            go_simp
            try with_reducible rfl
          try simp only [Act.put, List.setIfInBounds_toArray, List.set_cons_zero, List.set_cons_succ]
          refine held_take (i := 18) (d := some 32) (v := ?_) (by kernel_rfl) (by kernel_rfl) (by kernel_rfl) (by kernel_rfl) (fun _ _ _ h => h) (fun o ho => ?_) hHeld ?_
          rotate_left
          · simp only [List.getElem?_toArray, List.getElem?_cons_zero, List.getElem?_cons_succ, Option.some.injEq] at ho
            subst ho
            refine ⟨by rfl, fun w hSw => ?_⟩
            (try dsimp only at hSw)
            go_simp
            try with_reducible rfl
          try simp only [Act.put, List.setIfInBounds_toArray, List.set_cons_zero, List.set_cons_succ]
          refine held_take (i := 19) (d := some 33) (v := ?_) (by kernel_rfl) (by kernel_rfl) (by kernel_rfl) (by kernel_rfl) (fun _ _ _ h => h) (fun o ho => ?_) hHeld ?_
          rotate_left
          · simp only [List.getElem?_toArray, List.getElem?_cons_zero, List.getElem?_cons_succ, Option.some.injEq] at ho
            subst ho
            refine ⟨by rfl, fun w hSw => ?_⟩
            (try dsimp only at hSw)
            go_simp
            try with_reducible rfl
          try simp only [Act.put, List.setIfInBounds_toArray, List.set_cons_zero, List.set_cons_succ]
          refine wpAnyH_ready (rs := [21]) (by kernel_rfl) (by simp) ?_
          refine held_step (i := 21) (by kernel_rfl) (fun o ho K' hK => ?_) ?_
          · simp only [List.getElem?_toArray, List.getElem?_cons_zero, List.getElem?_cons_succ, Option.some.injEq] at ho
            subst ho
            go_simp
            refine hK.out _ _ ?_ (fun hHeld => ?_)
            · (first | go_keep | exact HB.out _ (by repeat (first | exact hx02 | exact Ext.refl _ | apply Ext.drew | apply Ext.alloc | refine Ext.setCell ?_ (by rw [HZ.out]; first | (simp; done) | omega) _)))
            clear hK K'
            try simp only [List.setIfInBounds_toArray, List.set_cons_zero, List.set_cons_succ]
            refine wpAnyH_ready (rs := [22]) (by kernel_rfl) (by simp) ?_
            refine held_step (i := 22) (by kernel_rfl) (fun o ho K' hK => ?_) ?_
            · simp only [List.getElem?_toArray, List.getElem?_cons_zero, List.getElem?_cons_succ, Option.some.injEq] at ho
              subst ho
              go_simp
              refine hK.out _ _ ?_ (fun hHeld => ?_)
              · (first | go_keep | exact HB.out _ (by repeat (first | exact hx02 | exact Ext.refl _ | apply Ext.drew | apply Ext.alloc | refine Ext.setCell ?_ (by rw [HZ.out]; first | (simp; done) | omega) _)))
              clear hK K'
              try simp only [List.setIfInBounds_toArray, List.set_cons_zero, List.set_cons_succ]
              refine wpAnyH_done (by kernel_rfl) ?_ _
              try simp only [List.setIfInBounds_toArray, List.set_cons_zero, List.set_cons_succ]
              have hxw2 := HX0.out.trans hx02
              have hzw := hxw2.size
              go_wp2_with fail
              go_meet
              exact dueCut_old hxw2 (by change _ ≤ (World.alloc _ _).heap.size; rw [World.size_alloc, HZ.out]; omega) HPB.out (by change _ < (World.alloc _ _).heap.size; rw [World.size_alloc, HZ.out]; omega) (by omega) HQ.out
            exact AllReadyH.nil
          exact AllReadyH.nil
        exact AllReadyH.nil
      exact AllReadyH.nil
    refine held_step (i := 20) (by kernel_rfl) (fun o ho K' hK => ?_) ?_
    · simp only [List.getElem?_toArray, List.getElem?_cons_zero, List.getElem?_cons_succ, Option.some.injEq] at ho
      subst ho
      go_simp
      refine hK.out _ _ ?_ (fun hHeld => ?_)
      · (first | go_keep | exact HB.out _ (by repeat (first | exact hx02 | exact Ext.refl _ | apply Ext.drew | apply Ext.alloc | refine Ext.setCell ?_ (by rw [HZ.out]; first | (simp; done) | omega) _)))
      clear hK K'
      try simp only [List.setIfInBounds_toArray, List.set_cons_zero, List.set_cons_succ]
      refine wpAnyH_ready (rs := [2]) (by kernel_rfl) (by simp) ?_
      refine held_step (i := 2) (by kernel_rfl) (fun o ho K' hK => ?_) ?_
      · simp only [List.getElem?_toArray, List.getElem?_cons_zero, List.getElem?_cons_succ, Option.some.injEq] at ho
        subst ho
        go_simp
        go_at_call 57
        refine (HIN.out _).mono ?_
        rintro e w' ⟨rfl, rfl⟩
        try go_wp2_with fail
        refine hK.out _ _ ?_ (fun hHeld => ?_)
        · (first | go_keep | exact HB.out _ (by repeat (first | exact hx02 | exact Ext.refl _ | apply Ext.drew | apply Ext.alloc | refine Ext.setCell ?_ (by rw [HZ.out]; first | (simp; done) | omega) _)))
        clear hK K'
        try simp only [List.setIfInBounds_toArray, List.set_cons_zero, List.set_cons_succ]
        refine held_take (i := 3) (d := some 18) (v := ?_) (by kernel_rfl) (by kernel_rfl) (by kernel_rfl) (by kernel_rfl) (fun _ _ _ h => h) (fun o ho => ?_) hHeld ?_
        rotate_left
        · simp only [List.getElem?_toArray, List.getElem?_cons_zero, List.getElem?_cons_succ, Option.some.injEq] at ho
          subst ho
          refine ⟨by rfl, fun w hSw => ?_⟩
          (try dsimp only at hSw)
          go_simp
          try with_reducible rfl
        try simp only [Act.put, List.setIfInBounds_toArray, List.set_cons_zero, List.set_cons_succ]
        refine held_skips (is := [4, 5, 6, 7, 8, 9]) (k := 6) (l' := #[true, true, true, true, true, true, true, true, true, true, false, false, false, false, false, false, false, false, false, false, true, false, false]) (by kernel_rfl) rfl (by assumption) ?_
        refine held_take (i := 10) (d := some 25) (v := ?_) (by kernel_rfl) (by kernel_rfl) (by kernel_rfl) (by kernel_rfl) (fun _ _ _ h => h) (fun o ho => ?_) hHeld ?_
        rotate_left
        · simp only [List.getElem?_toArray, List.getElem?_cons_zero, List.getElem?_cons_succ, Option.some.injEq] at ho
          subst ho
          refine ⟨by rfl, fun w hSw => ?_⟩
          (try dsimp only at hSw)
          go_simp
          try with_reducible rfl
        try simp only [Act.put, List.setIfInBounds_toArray, List.set_cons_zero, List.set_cons_succ]
        refine held_take (i := 11) (d := some 26) (v := ?_) (by kernel_rfl) (by kernel_rfl) (by kernel_rfl) (by kernel_rfl) (fun _ _ _ h => h) (fun o ho => ?_) hHeld ?_
        rotate_left
        · simp only [List.getElem?_toArray, List.getElem?_cons_zero, List.getElem?_cons_succ, Option.some.injEq] at ho
          subst ho
          refine ⟨by rfl, fun w hSw => ?_⟩
          (try dsimp only at hSw)
          go_simp
          try with_reducible rfl
        try simp only [Act.put, List.setIfInBounds_toArray, List.set_cons_zero, List.set_cons_succ]
        refine held_skips (is := [12, 13, 14]) (k := 3) (l' := #[true, true, true, true, true, true, true, true, true, true, true, true, true, true, true, false, false, false, false, false, true, false, false]) (by kernel_rfl) rfl (by assumption) ?_
        refine held_take (i := 15) (d := some 30) (v := ?_) (by kernel_rfl) (by kernel_rfl) (by kernel_rfl) (by kernel_rfl) (fun _ _ _ h => h) (fun o ho => ?_) hHeld ?_
        rotate_left
        · simp only [List.getElem?_toArray, List.getElem?_cons_zero, List.getElem?_cons_succ, Option.some.injEq] at ho
          subst ho
          refine ⟨by rfl, fun w hSw => ?_⟩
          (try dsimp only at hSw)
          go_simp
          try with_reducible rfl
        try simp only [Act.put, List.setIfInBounds_toArray, List.set_cons_zero, List.set_cons_succ]
        refine wpAnyH_ready (rs := [16]) (by kernel_rfl) (by simp) ?_
        refine held_step (i := 16) (by kernel_rfl) (fun o ho K' hK => ?_) ?_
        · simp only [List.getElem?_toArray, List.getElem?_cons_zero, List.getElem?_cons_succ, Option.some.injEq] at ho
          subst ho
          go_simp
          go_at_call 56
          refine (HA.out false _ (by repeat (first | exact Ext.refl _ | apply Ext.drew | apply Ext.alloc))).mono ?_
          rintro e w2 ⟨x0, x1, x2, err, a0, a1, a2, n0, n1, n2, c0, c1, c2, rfl, rfl, rfl, rfl, hx2, hq⟩
          have HQ := Lib.hid hq
          clear hq
          have hx02 : Ext (w.alloc (boxD r a c)) w2 := (by repeat (first | exact Ext.refl _ | apply Ext.drew | apply Ext.alloc) : Ext _ _).trans hx2
          have hz2 : w.heap.size + 1 ≤ w2.heap.size := by have := hx02.size; rw [HZ.out] at this; exact this
          have hpB := HBK.out _ w2 (w.heap.size + 1) hx2 (two_new w _ _).2
          obtain ⟨⟨f0, f1, f2⟩, ⟨g0, g1, g2⟩, k1, k2, k3, k4⟩ := box3 hpB (.slice a0 n0 c0) (.slice a1 n1 c1)
          have HPB := Lib.hid hpB
          clear hpB
          try go_wp2_with fail
          refine hK.out _ _ ?_ (fun hHeld => ?_)
          · (first | go_keep | exact HB.out _ (by repeat (first | exact hx02 | exact Ext.refl _ | apply Ext.drew | apply Ext.alloc | refine Ext.setCell ?_ (by rw [HZ.out]; first | (simp; done) | omega) _)))
          clear hK K'
          try simp only [List.setIfInBounds_toArray, List.set_cons_zero, List.set_cons_succ]
          refine held_take (i := 17) (d := some 14) (v := ?_) (by kernel_rfl) (by kernel_rfl) (by kernel_rfl) (by kernel_rfl) (fun _ _ _ h => h) (fun o ho => ?_) hHeld ?_
          rotate_left
          · simp only [List.getElem?_toArray, List.getElem?_cons_zero, List.getElem?_cons_succ, Option.some.injEq] at ho
            subst ho
            refine ⟨by rfl, fun w hSw => ?_⟩
            (try dsimp only at hSw)
            go_simp
            try with_reducible rfl
          try simp only [Act.put, List.setIfInBounds_toArray, List.set_cons_zero, List.set_cons_succ]
          refine held_take (i := 18) (d := some 32) (v := ?_) (by kernel_rfl) (by kernel_rfl) (by kernel_rfl) (by kernel_rfl) (fun _ _ _ h => h) (fun o ho => ?_) hHeld ?_
          rotate_left
          · simp only [List.getElem?_toArray, List.getElem?_cons_zero, List.getElem?_cons_succ, Option.some.injEq] at ho
            subst ho
            refine ⟨by rfl, fun w hSw => ?_⟩
            (try dsimp only at hSw)
            go_simp
            try with_reducible rfl
          try simp only [Act.put, List.setIfInBounds_toArray, List.set_cons_zero, List.set_cons_succ]
          refine held_take (i := 19) (d := some 33) (v := ?_) (by kernel_rfl) (by kernel_rfl) (by kernel_rfl) (by kernel_rfl) (fun _ _ _ h => h) (fun o ho => ?_) hHeld ?_
          rotate_left
          · simp only [List.getElem?_toArray, List.getElem?_cons_zero, List.getElem?_cons_succ, Option.some.injEq] at ho
            subst ho
            refine ⟨by rfl, fun w hSw => ?_⟩
            (try dsimp only at hSw)
            go_simp
            try with_reducible rfl
          try simp only [Act.put, List.setIfInBounds_toArray, List.set_cons_zero, List.set_cons_succ]
          refine wpAnyH_ready (rs := [21]) (by kernel_rfl) (by simp) ?_
          refine held_step (i := 21) (by kernel_rfl) (fun o ho K' hK => ?_) ?_
          · simp only [List.getElem?_toArray, List.getElem?_cons_zero, List.getElem?_cons_succ, Option.some.injEq] at ho
            subst ho
            go_simp
            refine hK.out _ _ ?_ (fun hHeld => ?_)
            · (first | go_keep | exact HB.out _ (by repeat (first | exact hx02 | exact Ext.refl _ | apply Ext.drew | apply Ext.alloc | refine Ext.setCell ?_ (by rw [HZ.out]; first | (simp; done) | omega) _)))
            clear hK K'
            try simp only [List.setIfInBounds_toArray, List.set_cons_zero, List.set_cons_succ]
            refine wpAnyH_ready (rs := [22]) (by kernel_rfl) (by simp) ?_
            refine held_step (i := 22) (by kernel_rfl) (fun o ho K' hK => ?_) ?_
            · simp only [List.getElem?_toArray, List.getElem?_cons_zero, List.getElem?_cons_succ, Option.some.injEq] at ho
              subst ho
              go_simp
              refine hK.out _ _ ?_ (fun hHeld => ?_)
              · (first | go_keep | exact HB.out _ (by repeat (first | exact hx02 | exact Ext.refl _ | apply Ext.drew | apply Ext.alloc | refine Ext.setCell ?_ (by rw [HZ.out]; first | (simp; done) | omega) _)))
              clear hK K'
              try simp only [List.setIfInBounds_toArray, List.set_cons_zero, List.set_cons_succ]
              refine wpAnyH_done (by kernel_rfl) ?_ _
              try simp only [List.setIfInBounds_toArray, List.set_cons_zero, List.set_cons_succ]
              have hxw2 := HX0.out.trans hx02
              have hzw := hxw2.size
              go_wp2_with fail
              go_meet
              exact dueCut_old hxw2 (by change _ ≤ (World.alloc _ _).heap.size; rw [World.size_alloc, HZ.out]; omega) HPB.out (by change _ < (World.alloc _ _).heap.size; rw [World.size_alloc, HZ.out]; omega) (by omega) HQ.out
            exact AllReadyH.nil
          exact AllReadyH.nil
        exact AllReadyH.nil
      exact AllReadyH.nil
    exact AllReadyH.nil
  case rest =>
    obtain ⟨pb, x0, x1, x2, err, rfl, rfl, hx, ⟨f0, f1, f2⟩, hq⟩ := hcut
    unfold AskPart at hq
    rw [if_neg (by simp)] at hq
    subst hq
    have HF : Hid (∀ w1, Ext w w1 → DueRes r rate kept w (.returned (.tuple #[.slice none 0 0, .int .i64 2])) w1) := fun w1 hx => ⟨_, 2, rfl, hx, by rw [if_neg (by rw [HOK.out]; simp)]; exact ⟨rfl, rfl⟩⟩
    go_wp2
    go_ret2
    exact HF.out _ hx
set_option maxRecDepth 100000 in
set_option maxHeartbeats 8000000 in
theorem due_bad2 (v kv : Value) (r : Round) (rate : Int) (kept : List Int) (w : World) (hr : RoundAt w v r) (hk : IntsAt w kv kept) (hok : keptOk r rate kept = false) (hq1 : inB rate 0 1000 = true) (hq2 : ¬ kept.length = r.houses.length) :
    Calls Tryz.prog 12 #[v, .int .i64 rate, kv] w (DueRes r rate kept w) := by
  obtain ⟨hv, rfl, hh⟩ := hr
  have hr' : RoundAt w (.agg (r.cells hv).toArray) r := ⟨hv, rfl, hh⟩
  obtain ⟨a, c, rfl, h1, h2, _⟩ := hh.open
  obtain ⟨ka, kc, rfl, k1, k2, _⟩ := hk.open
  have hx0 : Ext w (w.alloc (boxD r a c)) := (Ext.refl w).alloc _
  have HX0 := Lib.hid hx0
  have HA := Lib.hid (fun fine w1 (hx : Ext (w.alloc (boxD r a c)) w1) => (asked_any _ r fine w1 (hr'.ext (hx0.trans hx))).mono (fun e w' h => asked_parts h))
  have HB := Lib.hid (fun w1 (hx : Ext (w.alloc (boxD r a c)) w1) => round_cells ((hx.block (by simp)).trans (World.alloc_heap_new w (boxD r a c))))
  have HBK := Lib.hid (fun w1 w2 (b : Nat) (hx : Ext w1 w2) (h : w1.heap[b]? = some (.cells #[.slice none 0 0, .slice none 0 0, .slice none 0 0] 88 (0, 0))) => (hx.block (Array.getElem?_eq_some_iff.1 h).1).trans h)
  unfold Round.cells at *
  have hmix : Tryz.prog.follows .mixedOrders = true := by kernel_rfl
  have HK := Lib.hid hk
  have hbz := World.size_alloc w (boxD r a c)
  have HZ := Lib.hid hbz
  have HOK := Lib.hid hok
  have HIN := Lib.hid (fun w1 => hq1 ▸ in_any rate 0 1000 w1)
  have t1 : ((kept.length : Int) == (r.houses.length : Int)) = false := by rw [beq_eq_false_iff_ne]; omega
  have t2 : (kept.length == r.houses.length) = false := by rw [beq_eq_false_iff_ne]; exact hq2
  clear hq1 hq2
  clear hr' hh hx0 hk hbz hok
  go_enter Tryz.func12, Tryz.ntmps12
  go_upto_region 1 with fail
  go_cut [8, 9] (fun s8 s9 W => DueCut r false w s8 s9 W)
  case first =>
    refine wp_region_held_drew (S := (fun w' => w'.cell? ⟨w.heap.size, 0, none⟩ = some (.int .i64 r.per) ∧ w'.cell? ⟨w.heap.size, 1, none⟩ = some (.int .i64 r.lo) ∧ w'.cell? ⟨w.heap.size, 2, none⟩ = some (.int .i64 r.hi) ∧ w'.cell? ⟨w.heap.size, 3, none⟩ = some (.int .i64 r.card) ∧ w'.cell? ⟨w.heap.size, 4, none⟩ = some (.int .i64 r.slack) ∧ w'.cell? ⟨w.heap.size, 5, none⟩ = some (.slice a r.houses.length c) ∧ w'.cell? ⟨w.heap.size, 6, none⟩ = some (.int .i64 r.all) ∧ w'.cell? ⟨w.heap.size, 7, none⟩ = some (.int .i64 r.off))) (by kernel_rfl) ?_ (fun hHeld => ?_)
    · (first | go_keep | exact HB.out _ (by repeat (first | exact hx02 | exact Ext.refl _ | apply Ext.drew | apply Ext.alloc | refine Ext.setCell ?_ (by rw [HZ.out]; first | (simp; done) | omega) _)))
    refine held_take (i := 0) (d := some 15) (v := ?_) (by kernel_rfl) (by kernel_rfl) (by kernel_rfl) (by kernel_rfl) (fun _ _ _ h => h) (fun o ho => ?_) hHeld ?_
    rotate_left
    · simp only [List.getElem?_toArray, List.getElem?_cons_zero, Option.some.injEq] at ho
      subst ho
      refine ⟨by rfl, fun w hSw => ?_⟩
      (try dsimp only at hSw)
      go_simp
      try with_reducible rfl
    try simp only [Act.put, List.setIfInBounds_toArray, List.set_cons_zero, List.set_cons_succ]
    refine held_take (i := 1) (d := some 16) (v := ?_) (by kernel_rfl) (by kernel_rfl) (by kernel_rfl) (by kernel_rfl) (fun _ _ _ h => h) (fun o ho => ?_) hHeld ?_
    rotate_left
    · simp only [List.getElem?_toArray, List.getElem?_cons_zero, List.getElem?_cons_succ, Option.some.injEq] at ho
      subst ho
      refine ⟨by rfl, fun w hSw => ?_⟩
      (try dsimp only at hSw)
      go_simp
      try with_reducible rfl
    try simp only [Act.put, List.setIfInBounds_toArray, List.set_cons_zero, List.set_cons_succ]
    refine wpAnyH_ready (rs := [2, 20]) (by kernel_rfl) (by simp) ?_
    refine held_step (i := 2) (by kernel_rfl) (fun o ho K' hK => ?_) ?_
    · simp only [List.getElem?_toArray, List.getElem?_cons_zero, List.getElem?_cons_succ, Option.some.injEq] at ho
      subst ho
      go_simp
      go_at_call 57
      refine (HIN.out _).mono ?_
      rintro e w' ⟨rfl, rfl⟩
      try go_wp2_with fail
      refine hK.out _ _ ?_ (fun hHeld => ?_)
      · (first | go_keep | exact HB.out _ (by repeat (first | exact hx02 | exact Ext.refl _ | apply Ext.drew | apply Ext.alloc | refine Ext.setCell ?_ (by rw [HZ.out]; first | (simp; done) | omega) _)))
      clear hK K'
      try simp only [List.setIfInBounds_toArray, List.set_cons_zero, List.set_cons_succ]
      refine held_take (i := 3) (d := some 18) (v := ?_) (by kernel_rfl) (by kernel_rfl) (by kernel_rfl) (by kernel_rfl) (fun _ _ _ h => h) (fun o ho => ?_) hHeld ?_
      rotate_left
      · simp only [List.getElem?_toArray, List.getElem?_cons_zero, List.getElem?_cons_succ, Option.some.injEq] at ho
        subst ho
        refine ⟨by rfl, fun w hSw => ?_⟩
        (try dsimp only at hSw)
        go_simp
        try with_reducible rfl
      try simp only [Act.put, List.setIfInBounds_toArray, List.set_cons_zero, List.set_cons_succ]
      refine held_take (i := 4) (d := some 19) (v := ?_) (by kernel_rfl) (by kernel_rfl) (by kernel_rfl) (by kernel_rfl) (fun _ _ _ h => h) (fun o ho => ?_) hHeld ?_
      rotate_left
      · simp only [List.getElem?_toArray, List.getElem?_cons_zero, List.getElem?_cons_succ, Option.some.injEq] at ho
        subst ho
        refine ⟨by rfl, fun w hSw => ?_⟩
        (try dsimp only at hSw)
        go_simp
        try with_reducible rfl
      try simp only [Act.put, List.setIfInBounds_toArray, List.set_cons_zero, List.set_cons_succ]
      refine held_take (i := 5) (d := some 20) (v := ?_) (by kernel_rfl) (by kernel_rfl) (by kernel_rfl) (by kernel_rfl) (fun _ _ _ h => h) (fun o ho => ?_) hHeld ?_
      rotate_left
      · simp only [List.getElem?_toArray, List.getElem?_cons_zero, List.getElem?_cons_succ, Option.some.injEq] at ho
        subst ho
        refine ⟨by rfl, fun w hSw => ?_⟩
        (try dsimp only at hSw)
        go_simp
        try with_reducible rfl
      try simp only [Act.put, List.setIfInBounds_toArray, List.set_cons_zero, List.set_cons_succ]
      refine held_take (i := 6) (d := some 21) (v := ?_) (by kernel_rfl) (by kernel_rfl) (by kernel_rfl) (by kernel_rfl) (fun _ _ _ h => h) (fun o ho => ?_) hHeld ?_
      rotate_left
      · simp only [List.getElem?_toArray, List.getElem?_cons_zero, List.getElem?_cons_succ, Option.some.injEq] at ho
        subst ho
        refine ⟨by rfl, fun w hSw => ?_⟩
        (try dsimp only at hSw)
        go_simp
        try with_reducible rfl
      try simp only [Act.put, List.setIfInBounds_toArray, List.set_cons_zero, List.set_cons_succ]
      refine held_take (i := 7) (d := some 22) (v := ?_) (by kernel_rfl) (by kernel_rfl) (by kernel_rfl) (by kernel_rfl) (fun _ _ _ h => h) (fun o ho => ?_) hHeld ?_
      rotate_left
      · simp only [List.getElem?_toArray, List.getElem?_cons_zero, List.getElem?_cons_succ, Option.some.injEq] at ho
        subst ho
        refine ⟨by rfl, fun w hSw => ?_⟩
        (try dsimp only at hSw)
        go_simp
        try with_reducible rfl
      try simp only [Act.put, List.setIfInBounds_toArray, List.set_cons_zero, List.set_cons_succ]
      refine held_take (i := 8) (d := some 23) (v := ?_) (by kernel_rfl) (by kernel_rfl) (by kernel_rfl) (by kernel_rfl) (fun _ _ _ h => h) (fun o ho => ?_) hHeld ?_
      rotate_left
      · simp only [List.getElem?_toArray, List.getElem?_cons_zero, List.getElem?_cons_succ, Option.some.injEq] at ho
        subst ho
        refine ⟨by rfl, fun w hSw => ?_⟩
        (try dsimp only at hSw)
        go_simp
        try with_reducible rfl
      try simp only [Act.put, List.setIfInBounds_toArray, List.set_cons_zero, List.set_cons_succ]
      refine held_take (i := 9) (d := some 24) (v := ?_) (by kernel_rfl) (by kernel_rfl) (by kernel_rfl) (by kernel_rfl) (fun _ _ _ h => h) (fun o ho => ?_) hHeld ?_
      rotate_left
      · simp only [List.getElem?_toArray, List.getElem?_cons_zero, List.getElem?_cons_succ, Option.some.injEq] at ho
        subst ho
        refine ⟨by rfl, fun w hSw => ?_⟩
        (try dsimp only at hSw)
        go_simp
        try with_reducible rfl
      try simp only [Act.put, List.setIfInBounds_toArray, List.set_cons_zero, List.set_cons_succ]
      refine held_take (i := 10) (d := some 25) (v := ?_) (by kernel_rfl) (by kernel_rfl) (by kernel_rfl) (by kernel_rfl) (fun _ _ _ h => h) (fun o ho => ?_) hHeld ?_
      rotate_left
      · simp only [List.getElem?_toArray, List.getElem?_cons_zero, List.getElem?_cons_succ, Option.some.injEq] at ho
        subst ho
        refine ⟨by rfl, fun w hSw => ?_⟩
        (try dsimp only at hSw)
        go_simp
        try with_reducible rfl
      try simp only [Act.put, List.setIfInBounds_toArray, List.set_cons_zero, List.set_cons_succ]
      refine held_take (i := 11) (d := some 26) (v := ?_) (by kernel_rfl) (by kernel_rfl) (by kernel_rfl) (by kernel_rfl) (fun _ _ _ h => h) (fun o ho => ?_) hHeld ?_
      rotate_left
      · simp only [List.getElem?_toArray, List.getElem?_cons_zero, List.getElem?_cons_succ, Option.some.injEq] at ho
        subst ho
        refine ⟨by rfl, fun w hSw => ?_⟩
        (try dsimp only at hSw)
        go_simp
        try with_reducible rfl
      try simp only [Act.put, List.setIfInBounds_toArray, List.set_cons_zero, List.set_cons_succ]
      refine held_skips (is := [12, 13, 14]) (k := 3) (l' := #[true, true, true, true, true, true, true, true, true, true, true, true, true, true, true, false, false, false, false, false, false, false, false]) (by kernel_rfl) rfl (by assumption) ?_
      refine held_take (i := 15) (d := some 30) (v := ?_) (by kernel_rfl) (by kernel_rfl) (by kernel_rfl) (by kernel_rfl) (fun _ _ _ h => h) (fun o ho => ?_) hHeld ?_
      rotate_left
      · simp only [List.getElem?_toArray, List.getElem?_cons_zero, List.getElem?_cons_succ, Option.some.injEq] at ho
        subst ho
        refine ⟨by rfl, fun w hSw => ?_⟩
        (try dsimp only at hSw)
        go_simp
        try with_reducible rfl
      try simp only [Act.put, List.setIfInBounds_toArray, List.set_cons_zero, List.set_cons_succ]
      refine wpAnyH_ready (rs := [16, 20]) (by kernel_rfl) (by simp) ?_
      refine held_step (i := 16) (by kernel_rfl) (fun o ho K' hK => ?_) ?_
      · simp only [List.getElem?_toArray, List.getElem?_cons_zero, List.getElem?_cons_succ, Option.some.injEq] at ho
        subst ho
        go_simp
        go_at_call 56
        refine (HA.out false _ (by repeat (first | exact Ext.refl _ | apply Ext.drew | apply Ext.alloc))).mono ?_
        rintro e w2 ⟨x0, x1, x2, err, a0, a1, a2, n0, n1, n2, c0, c1, c2, rfl, rfl, rfl, rfl, hx2, hq⟩
        have HQ := Lib.hid hq
        clear hq
        have hx02 : Ext (w.alloc (boxD r a c)) w2 := (by repeat (first | exact Ext.refl _ | apply Ext.drew | apply Ext.alloc) : Ext _ _).trans hx2
        have hz2 : w.heap.size + 1 ≤ w2.heap.size := by have := hx02.size; rw [HZ.out] at this; exact this
        try go_wp2_with fail
        refine hK.out _ _ ?_ (fun hHeld => ?_)
        · (first | go_keep | exact HB.out _ (by repeat (first | exact hx02 | exact Ext.refl _ | apply Ext.drew | apply Ext.alloc | refine Ext.setCell ?_ (by rw [HZ.out]; first | (simp; done) | omega) _)))
        clear hK K'
        try simp only [List.setIfInBounds_toArray, List.set_cons_zero, List.set_cons_succ]
        refine held_take (i := 17) (d := some 14) (v := ?_) (by kernel_rfl) (by kernel_rfl) (by kernel_rfl) (by kernel_rfl) (fun _ _ _ h => h) (fun o ho => ?_) hHeld ?_
        rotate_left
        · simp only [List.getElem?_toArray, List.getElem?_cons_zero, List.getElem?_cons_succ, Option.some.injEq] at ho
          subst ho
          refine ⟨by rfl, fun w hSw => ?_⟩
          (try dsimp only at hSw)
          go_simp
          try with_reducible rfl
        try simp only [Act.put, List.setIfInBounds_toArray, List.set_cons_zero, List.set_cons_succ]
        refine held_take (i := 18) (d := some 32) (v := ?_) (by kernel_rfl) (by kernel_rfl) (by kernel_rfl) (by kernel_rfl) (fun _ _ _ h => h) (fun o ho => ?_) hHeld ?_
        rotate_left
        · simp only [List.getElem?_toArray, List.getElem?_cons_zero, List.getElem?_cons_succ, Option.some.injEq] at ho
          subst ho
          refine ⟨by rfl, fun w hSw => ?_⟩
          (try dsimp only at hSw)
          go_simp
          try with_reducible rfl
        try simp only [Act.put, List.setIfInBounds_toArray, List.set_cons_zero, List.set_cons_succ]
        refine held_take (i := 19) (d := some 33) (v := ?_) (by kernel_rfl) (by kernel_rfl) (by kernel_rfl) (by kernel_rfl) (fun _ _ _ h => h) (fun o ho => ?_) hHeld ?_
        rotate_left
        · simp only [List.getElem?_toArray, List.getElem?_cons_zero, List.getElem?_cons_succ, Option.some.injEq] at ho
          subst ho
          refine ⟨by rfl, fun w hSw => ?_⟩
          (try dsimp only at hSw)
          go_simp
          try with_reducible rfl
        try simp only [Act.put, List.setIfInBounds_toArray, List.set_cons_zero, List.set_cons_succ]
        refine wpAnyH_ready (rs := [20]) (by kernel_rfl) (by simp) ?_
        refine held_step (i := 20) (by kernel_rfl) (fun o ho K' hK => ?_) ?_
        · simp only [List.getElem?_toArray, List.getElem?_cons_zero, List.getElem?_cons_succ, Option.some.injEq] at ho
          subst ho
          go_simp
          refine hK.out _ _ ?_ (fun hHeld => ?_)
          · (first | go_keep | exact HB.out _ (by repeat (first | exact hx02 | exact Ext.refl _ | apply Ext.drew | apply Ext.alloc | refine Ext.setCell ?_ (by rw [HZ.out]; first | (simp; done) | omega) _)))
          clear hK K'
          try simp only [List.setIfInBounds_toArray, List.set_cons_zero, List.set_cons_succ]
          refine wpAnyH_ready (rs := [21]) (by kernel_rfl) (by simp) ?_
          refine held_step (i := 21) (by kernel_rfl) (fun o ho K' hK => ?_) ?_
          · simp only [List.getElem?_toArray, List.getElem?_cons_zero, List.getElem?_cons_succ, Option.some.injEq] at ho
            subst ho
            go_simp
            refine hK.out _ _ ?_ (fun hHeld => ?_)
            · (first | go_keep | exact HB.out _ (by repeat (first | exact hx02 | exact Ext.refl _ | apply Ext.drew | apply Ext.alloc | refine Ext.setCell ?_ (by rw [HZ.out]; first | (simp; done) | omega) _)))
            clear hK K'
            try simp only [List.setIfInBounds_toArray, List.set_cons_zero, List.set_cons_succ]
            refine wpAnyH_ready (rs := [22]) (by kernel_rfl) (by simp) ?_
            refine held_step (i := 22) (by kernel_rfl) (fun o ho K' hK => ?_) ?_
            · simp only [List.getElem?_toArray, List.getElem?_cons_zero, List.getElem?_cons_succ, Option.some.injEq] at ho
              subst ho
              go_simp
              refine hK.out _ _ ?_ (fun hHeld => ?_)
              · (first | go_keep | exact HB.out _ (by repeat (first | exact hx02 | exact Ext.refl _ | apply Ext.drew | apply Ext.alloc | refine Ext.setCell ?_ (by rw [HZ.out]; first | (simp; done) | omega) _)))
              clear hK K'
              try simp only [List.setIfInBounds_toArray, List.set_cons_zero, List.set_cons_succ]
              refine wpAnyH_done (by kernel_rfl) ?_ _
              try simp only [List.setIfInBounds_toArray, List.set_cons_zero, List.set_cons_succ]
              have hxw2 := HX0.out.trans hx02
              have hzw := hxw2.size
              go_wp2_with fail
              go_meet
              exact dueCut_new hxw2 (by change _ ≤ (World.alloc _ _).heap.size; rw [World.size_alloc]; omega) HQ.out
            exact AllReadyH.nil
          exact AllReadyH.nil
        exact AllReadyH.nil
      refine held_step (i := 20) (by kernel_rfl) (fun o ho K' hK => ?_) ?_
      · simp only [List.getElem?_toArray, List.getElem?_cons_zero, List.getElem?_cons_succ, Option.some.injEq] at ho
        subst ho
        go_simp
        refine hK.out _ _ ?_ (fun hHeld => ?_)
        · (first | go_keep | exact HB.out _ (by repeat (first | exact hx02 | exact Ext.refl _ | apply Ext.drew | apply Ext.alloc | refine Ext.setCell ?_ (by rw [HZ.out]; first | (simp; done) | omega) _)))
        clear hK K'
        try simp only [List.setIfInBounds_toArray, List.set_cons_zero, List.set_cons_succ]
        refine wpAnyH_ready (rs := [16]) (by kernel_rfl) (by simp) ?_
        refine held_step (i := 16) (by kernel_rfl) (fun o ho K' hK => ?_) ?_
        · simp only [List.getElem?_toArray, List.getElem?_cons_zero, List.getElem?_cons_succ, Option.some.injEq] at ho
          subst ho
          go_simp
          go_at_call 56
          refine (HA.out false _ (by repeat (first | exact Ext.refl _ | apply Ext.drew | apply Ext.alloc))).mono ?_
          rintro e w2 ⟨x0, x1, x2, err, a0, a1, a2, n0, n1, n2, c0, c1, c2, rfl, rfl, rfl, rfl, hx2, hq⟩
          have HQ := Lib.hid hq
          clear hq
          have hx02 : Ext (w.alloc (boxD r a c)) w2 := (by repeat (first | exact Ext.refl _ | apply Ext.drew | apply Ext.alloc) : Ext _ _).trans hx2
          have hz2 : w.heap.size + 1 ≤ w2.heap.size := by have := hx02.size; rw [HZ.out] at this; exact this
          have hpB := HBK.out _ w2 (w.heap.size + 1) hx2 (two_new w _ _).2
          obtain ⟨⟨f0, f1, f2⟩, ⟨g0, g1, g2⟩, k1, k2, k3, k4⟩ := box3 hpB (.slice a0 n0 c0) (.slice a1 n1 c1)
          have HPB := Lib.hid hpB
          clear hpB
          try go_wp2_with fail
          refine hK.out _ _ ?_ (fun hHeld => ?_)
          · (first | go_keep | exact HB.out _ (by repeat (first | exact hx02 | exact Ext.refl _ | apply Ext.drew | apply Ext.alloc | refine Ext.setCell ?_ (by rw [HZ.out]; first | (simp; done) | omega) _)))
          clear hK K'
          try simp only [List.setIfInBounds_toArray, List.set_cons_zero, List.set_cons_succ]
          refine held_take (i := 17) (d := some 14) (v := ?_) (by kernel_rfl) (by kernel_rfl) (by kernel_rfl) (by kernel_rfl) (fun _ _ _ h => h) (fun o ho => ?_) hHeld ?_
          rotate_left
          · simp only [List.getElem?_toArray, List.getElem?_cons_zero, List.getElem?_cons_succ, Option.some.injEq] at ho
            subst ho
            refine ⟨by rfl, fun w hSw => ?_⟩
            (try dsimp only at hSw)
            go_simp
            try with_reducible rfl
          try simp only [Act.put, List.setIfInBounds_toArray, List.set_cons_zero, List.set_cons_succ]
          refine held_take (i := 18) (d := some 32) (v := ?_) (by kernel_rfl) (by kernel_rfl) (by kernel_rfl) (by kernel_rfl) (fun _ _ _ h => h) (fun o ho => ?_) hHeld ?_
          rotate_left
          · simp only [List.getElem?_toArray, List.getElem?_cons_zero, List.getElem?_cons_succ, Option.some.injEq] at ho
            subst ho
            refine ⟨by rfl, fun w hSw => ?_⟩
            (try dsimp only at hSw)
            go_simp
            try with_reducible rfl
          try simp only [Act.put, List.setIfInBounds_toArray, List.set_cons_zero, List.set_cons_succ]
          refine held_take (i := 19) (d := some 33) (v := ?_) (by kernel_rfl) (by kernel_rfl) (by kernel_rfl) (by kernel_rfl) (fun _ _ _ h => h) (fun o ho => ?_) hHeld ?_
          rotate_left
          · simp only [List.getElem?_toArray, List.getElem?_cons_zero, List.getElem?_cons_succ, Option.some.injEq] at ho
            subst ho
            refine ⟨by rfl, fun w hSw => ?_⟩
            (try dsimp only at hSw)
            go_simp
            try with_reducible rfl
          try simp only [Act.put, List.setIfInBounds_toArray, List.set_cons_zero, List.set_cons_succ]
          refine wpAnyH_ready (rs := [21]) (by kernel_rfl) (by simp) ?_
          refine held_step (i := 21) (by kernel_rfl) (fun o ho K' hK => ?_) ?_
          · simp only [List.getElem?_toArray, List.getElem?_cons_zero, List.getElem?_cons_succ, Option.some.injEq] at ho
            subst ho
            go_simp
            refine hK.out _ _ ?_ (fun hHeld => ?_)
            · (first | go_keep | exact HB.out _ (by repeat (first | exact hx02 | exact Ext.refl _ | apply Ext.drew | apply Ext.alloc | refine Ext.setCell ?_ (by rw [HZ.out]; first | (simp; done) | omega) _)))
            clear hK K'
            try simp only [List.setIfInBounds_toArray, List.set_cons_zero, List.set_cons_succ]
            refine wpAnyH_ready (rs := [22]) (by kernel_rfl) (by simp) ?_
            refine held_step (i := 22) (by kernel_rfl) (fun o ho K' hK => ?_) ?_
            · simp only [List.getElem?_toArray, List.getElem?_cons_zero, List.getElem?_cons_succ, Option.some.injEq] at ho
              subst ho
              go_simp
              refine hK.out _ _ ?_ (fun hHeld => ?_)
              · (first | go_keep | exact HB.out _ (by repeat (first | exact hx02 | exact Ext.refl _ | apply Ext.drew | apply Ext.alloc | refine Ext.setCell ?_ (by rw [HZ.out]; first | (simp; done) | omega) _)))
              clear hK K'
              try simp only [List.setIfInBounds_toArray, List.set_cons_zero, List.set_cons_succ]
              refine wpAnyH_done (by kernel_rfl) ?_ _
              try simp only [List.setIfInBounds_toArray, List.set_cons_zero, List.set_cons_succ]
              have hxw2 := HX0.out.trans hx02
              have hzw := hxw2.size
              go_wp2_with fail
              go_meet
              exact dueCut_old hxw2 (by change _ ≤ (World.alloc _ _).heap.size; rw [World.size_alloc, HZ.out]; omega) HPB.out (by change _ < (World.alloc _ _).heap.size; rw [World.size_alloc, HZ.out]; omega) (by omega) HQ.out
            exact AllReadyH.nil
          exact AllReadyH.nil
        exact AllReadyH.nil
      exact AllReadyH.nil
    refine held_step (i := 20) (by kernel_rfl) (fun o ho K' hK => ?_) ?_
    · simp only [List.getElem?_toArray, List.getElem?_cons_zero, List.getElem?_cons_succ, Option.some.injEq] at ho
      subst ho
      go_simp
      refine hK.out _ _ ?_ (fun hHeld => ?_)
      · (first | go_keep | exact HB.out _ (by repeat (first | exact hx02 | exact Ext.refl _ | apply Ext.drew | apply Ext.alloc | refine Ext.setCell ?_ (by rw [HZ.out]; first | (simp; done) | omega) _)))
      clear hK K'
      try simp only [List.setIfInBounds_toArray, List.set_cons_zero, List.set_cons_succ]
      refine wpAnyH_ready (rs := [2]) (by kernel_rfl) (by simp) ?_
      refine held_step (i := 2) (by kernel_rfl) (fun o ho K' hK => ?_) ?_
      · simp only [List.getElem?_toArray, List.getElem?_cons_zero, List.getElem?_cons_succ, Option.some.injEq] at ho
        subst ho
        go_simp
        go_at_call 57
        refine (HIN.out _).mono ?_
        rintro e w' ⟨rfl, rfl⟩
        try go_wp2_with fail
        refine hK.out _ _ ?_ (fun hHeld => ?_)
        · (first | go_keep | exact HB.out _ (by repeat (first | exact hx02 | exact Ext.refl _ | apply Ext.drew | apply Ext.alloc | refine Ext.setCell ?_ (by rw [HZ.out]; first | (simp; done) | omega) _)))
        clear hK K'
        try simp only [List.setIfInBounds_toArray, List.set_cons_zero, List.set_cons_succ]
        refine held_take (i := 3) (d := some 18) (v := ?_) (by kernel_rfl) (by kernel_rfl) (by kernel_rfl) (by kernel_rfl) (fun _ _ _ h => h) (fun o ho => ?_) hHeld ?_
        rotate_left
        · simp only [List.getElem?_toArray, List.getElem?_cons_zero, List.getElem?_cons_succ, Option.some.injEq] at ho
          subst ho
          refine ⟨by rfl, fun w hSw => ?_⟩
          (try dsimp only at hSw)
          go_simp
          try with_reducible rfl
        try simp only [Act.put, List.setIfInBounds_toArray, List.set_cons_zero, List.set_cons_succ]
        refine held_take (i := 4) (d := some 19) (v := ?_) (by kernel_rfl) (by kernel_rfl) (by kernel_rfl) (by kernel_rfl) (fun _ _ _ h => h) (fun o ho => ?_) hHeld ?_
        rotate_left
        · simp only [List.getElem?_toArray, List.getElem?_cons_zero, List.getElem?_cons_succ, Option.some.injEq] at ho
          subst ho
          refine ⟨by rfl, fun w hSw => ?_⟩
          (try dsimp only at hSw)
          go_simp
          try with_reducible rfl
        try simp only [Act.put, List.setIfInBounds_toArray, List.set_cons_zero, List.set_cons_succ]
        refine held_take (i := 5) (d := some 20) (v := ?_) (by kernel_rfl) (by kernel_rfl) (by kernel_rfl) (by kernel_rfl) (fun _ _ _ h => h) (fun o ho => ?_) hHeld ?_
        rotate_left
        · simp only [List.getElem?_toArray, List.getElem?_cons_zero, List.getElem?_cons_succ, Option.some.injEq] at ho
          subst ho
          refine ⟨by rfl, fun w hSw => ?_⟩
          (try dsimp only at hSw)
          go_simp
          try with_reducible rfl
        try simp only [Act.put, List.setIfInBounds_toArray, List.set_cons_zero, List.set_cons_succ]
        refine held_take (i := 6) (d := some 21) (v := ?_) (by kernel_rfl) (by kernel_rfl) (by kernel_rfl) (by kernel_rfl) (fun _ _ _ h => h) (fun o ho => ?_) hHeld ?_
        rotate_left
        · simp only [List.getElem?_toArray, List.getElem?_cons_zero, List.getElem?_cons_succ, Option.some.injEq] at ho
          subst ho
          refine ⟨by rfl, fun w hSw => ?_⟩
          (try dsimp only at hSw)
          go_simp
          try with_reducible rfl
        try simp only [Act.put, List.setIfInBounds_toArray, List.set_cons_zero, List.set_cons_succ]
        refine held_take (i := 7) (d := some 22) (v := ?_) (by kernel_rfl) (by kernel_rfl) (by kernel_rfl) (by kernel_rfl) (fun _ _ _ h => h) (fun o ho => ?_) hHeld ?_
        rotate_left
        · simp only [List.getElem?_toArray, List.getElem?_cons_zero, List.getElem?_cons_succ, Option.some.injEq] at ho
          subst ho
          refine ⟨by rfl, fun w hSw => ?_⟩
          (try dsimp only at hSw)
          go_simp
          try with_reducible rfl
        try simp only [Act.put, List.setIfInBounds_toArray, List.set_cons_zero, List.set_cons_succ]
        refine held_take (i := 8) (d := some 23) (v := ?_) (by kernel_rfl) (by kernel_rfl) (by kernel_rfl) (by kernel_rfl) (fun _ _ _ h => h) (fun o ho => ?_) hHeld ?_
        rotate_left
        · simp only [List.getElem?_toArray, List.getElem?_cons_zero, List.getElem?_cons_succ, Option.some.injEq] at ho
          subst ho
          refine ⟨by rfl, fun w hSw => ?_⟩
          (try dsimp only at hSw)
          go_simp
          try with_reducible rfl
        try simp only [Act.put, List.setIfInBounds_toArray, List.set_cons_zero, List.set_cons_succ]
        refine held_take (i := 9) (d := some 24) (v := ?_) (by kernel_rfl) (by kernel_rfl) (by kernel_rfl) (by kernel_rfl) (fun _ _ _ h => h) (fun o ho => ?_) hHeld ?_
        rotate_left
        · simp only [List.getElem?_toArray, List.getElem?_cons_zero, List.getElem?_cons_succ, Option.some.injEq] at ho
          subst ho
          refine ⟨by rfl, fun w hSw => ?_⟩
          (try dsimp only at hSw)
          go_simp
          try with_reducible rfl
        try simp only [Act.put, List.setIfInBounds_toArray, List.set_cons_zero, List.set_cons_succ]
        refine held_take (i := 10) (d := some 25) (v := ?_) (by kernel_rfl) (by kernel_rfl) (by kernel_rfl) (by kernel_rfl) (fun _ _ _ h => h) (fun o ho => ?_) hHeld ?_
        rotate_left
        · simp only [List.getElem?_toArray, List.getElem?_cons_zero, List.getElem?_cons_succ, Option.some.injEq] at ho
          subst ho
          refine ⟨by rfl, fun w hSw => ?_⟩
          (try dsimp only at hSw)
          go_simp
          try with_reducible rfl
        try simp only [Act.put, List.setIfInBounds_toArray, List.set_cons_zero, List.set_cons_succ]
        refine held_take (i := 11) (d := some 26) (v := ?_) (by kernel_rfl) (by kernel_rfl) (by kernel_rfl) (by kernel_rfl) (fun _ _ _ h => h) (fun o ho => ?_) hHeld ?_
        rotate_left
        · simp only [List.getElem?_toArray, List.getElem?_cons_zero, List.getElem?_cons_succ, Option.some.injEq] at ho
          subst ho
          refine ⟨by rfl, fun w hSw => ?_⟩
          (try dsimp only at hSw)
          go_simp
          try with_reducible rfl
        try simp only [Act.put, List.setIfInBounds_toArray, List.set_cons_zero, List.set_cons_succ]
        refine held_skips (is := [12, 13, 14]) (k := 3) (l' := #[true, true, true, true, true, true, true, true, true, true, true, true, true, true, true, false, false, false, false, false, true, false, false]) (by kernel_rfl) rfl (by assumption) ?_
        refine held_take (i := 15) (d := some 30) (v := ?_) (by kernel_rfl) (by kernel_rfl) (by kernel_rfl) (by kernel_rfl) (fun _ _ _ h => h) (fun o ho => ?_) hHeld ?_
        rotate_left
        · simp only [List.getElem?_toArray, List.getElem?_cons_zero, List.getElem?_cons_succ, Option.some.injEq] at ho
          subst ho
          refine ⟨by rfl, fun w hSw => ?_⟩
          (try dsimp only at hSw)
          go_simp
          try with_reducible rfl
        try simp only [Act.put, List.setIfInBounds_toArray, List.set_cons_zero, List.set_cons_succ]
        refine wpAnyH_ready (rs := [16]) (by kernel_rfl) (by simp) ?_
        refine held_step (i := 16) (by kernel_rfl) (fun o ho K' hK => ?_) ?_
        · simp only [List.getElem?_toArray, List.getElem?_cons_zero, List.getElem?_cons_succ, Option.some.injEq] at ho
          subst ho
          go_simp
          go_at_call 56
          refine (HA.out false _ (by repeat (first | exact Ext.refl _ | apply Ext.drew | apply Ext.alloc))).mono ?_
          rintro e w2 ⟨x0, x1, x2, err, a0, a1, a2, n0, n1, n2, c0, c1, c2, rfl, rfl, rfl, rfl, hx2, hq⟩
          have HQ := Lib.hid hq
          clear hq
          have hx02 : Ext (w.alloc (boxD r a c)) w2 := (by repeat (first | exact Ext.refl _ | apply Ext.drew | apply Ext.alloc) : Ext _ _).trans hx2
          have hz2 : w.heap.size + 1 ≤ w2.heap.size := by have := hx02.size; rw [HZ.out] at this; exact this
          have hpB := HBK.out _ w2 (w.heap.size + 1) hx2 (two_new w _ _).2
          obtain ⟨⟨f0, f1, f2⟩, ⟨g0, g1, g2⟩, k1, k2, k3, k4⟩ := box3 hpB (.slice a0 n0 c0) (.slice a1 n1 c1)
          have HPB := Lib.hid hpB
          clear hpB
          try go_wp2_with fail
          refine hK.out _ _ ?_ (fun hHeld => ?_)
          · (first | go_keep | exact HB.out _ (by repeat (first | exact hx02 | exact Ext.refl _ | apply Ext.drew | apply Ext.alloc | refine Ext.setCell ?_ (by rw [HZ.out]; first | (simp; done) | omega) _)))
          clear hK K'
          try simp only [List.setIfInBounds_toArray, List.set_cons_zero, List.set_cons_succ]
          refine held_take (i := 17) (d := some 14) (v := ?_) (by kernel_rfl) (by kernel_rfl) (by kernel_rfl) (by kernel_rfl) (fun _ _ _ h => h) (fun o ho => ?_) hHeld ?_
          rotate_left
          · simp only [List.getElem?_toArray, List.getElem?_cons_zero, List.getElem?_cons_succ, Option.some.injEq] at ho
            subst ho
            refine ⟨by rfl, fun w hSw => ?_⟩
            (try dsimp only at hSw)
            go_simp
            try with_reducible rfl
          try simp only [Act.put, List.setIfInBounds_toArray, List.set_cons_zero, List.set_cons_succ]
          refine held_take (i := 18) (d := some 32) (v := ?_) (by kernel_rfl) (by kernel_rfl) (by kernel_rfl) (by kernel_rfl) (fun _ _ _ h => h) (fun o ho => ?_) hHeld ?_
          rotate_left
          · simp only [List.getElem?_toArray, List.getElem?_cons_zero, List.getElem?_cons_succ, Option.some.injEq] at ho
            subst ho
            refine ⟨by rfl, fun w hSw => ?_⟩
            (try dsimp only at hSw)
            go_simp
            try with_reducible rfl
          try simp only [Act.put, List.setIfInBounds_toArray, List.set_cons_zero, List.set_cons_succ]
          refine held_take (i := 19) (d := some 33) (v := ?_) (by kernel_rfl) (by kernel_rfl) (by kernel_rfl) (by kernel_rfl) (fun _ _ _ h => h) (fun o ho => ?_) hHeld ?_
          rotate_left
          · simp only [List.getElem?_toArray, List.getElem?_cons_zero, List.getElem?_cons_succ, Option.some.injEq] at ho
            subst ho
            refine ⟨by rfl, fun w hSw => ?_⟩
            (try dsimp only at hSw)
            go_simp
            try with_reducible rfl
          try simp only [Act.put, List.setIfInBounds_toArray, List.set_cons_zero, List.set_cons_succ]
          refine wpAnyH_ready (rs := [21]) (by kernel_rfl) (by simp) ?_
          refine held_step (i := 21) (by kernel_rfl) (fun o ho K' hK => ?_) ?_
          · simp only [List.getElem?_toArray, List.getElem?_cons_zero, List.getElem?_cons_succ, Option.some.injEq] at ho
            subst ho
            go_simp
            refine hK.out _ _ ?_ (fun hHeld => ?_)
            · (first | go_keep | exact HB.out _ (by repeat (first | exact hx02 | exact Ext.refl _ | apply Ext.drew | apply Ext.alloc | refine Ext.setCell ?_ (by rw [HZ.out]; first | (simp; done) | omega) _)))
            clear hK K'
            try simp only [List.setIfInBounds_toArray, List.set_cons_zero, List.set_cons_succ]
            refine wpAnyH_ready (rs := [22]) (by kernel_rfl) (by simp) ?_
            refine held_step (i := 22) (by kernel_rfl) (fun o ho K' hK => ?_) ?_
            · simp only [List.getElem?_toArray, List.getElem?_cons_zero, List.getElem?_cons_succ, Option.some.injEq] at ho
              subst ho
              go_simp
              refine hK.out _ _ ?_ (fun hHeld => ?_)
              · (first | go_keep | exact HB.out _ (by repeat (first | exact hx02 | exact Ext.refl _ | apply Ext.drew | apply Ext.alloc | refine Ext.setCell ?_ (by rw [HZ.out]; first | (simp; done) | omega) _)))
              clear hK K'
              try simp only [List.setIfInBounds_toArray, List.set_cons_zero, List.set_cons_succ]
              refine wpAnyH_done (by kernel_rfl) ?_ _
              try simp only [List.setIfInBounds_toArray, List.set_cons_zero, List.set_cons_succ]
              have hxw2 := HX0.out.trans hx02
              have hzw := hxw2.size
              go_wp2_with fail
              go_meet
              exact dueCut_old hxw2 (by change _ ≤ (World.alloc _ _).heap.size; rw [World.size_alloc, HZ.out]; omega) HPB.out (by change _ < (World.alloc _ _).heap.size; rw [World.size_alloc, HZ.out]; omega) (by omega) HQ.out
            exact AllReadyH.nil
          exact AllReadyH.nil
        exact AllReadyH.nil
      exact AllReadyH.nil
    exact AllReadyH.nil
  case rest =>
    obtain ⟨pb, x0, x1, x2, err, rfl, rfl, hx, ⟨f0, f1, f2⟩, hq⟩ := hcut
    unfold AskPart at hq
    rw [if_neg (by simp)] at hq
    subst hq
    have HF : Hid (∀ w1, Ext w w1 → DueRes r rate kept w (.returned (.tuple #[.slice none 0 0, .int .i64 2])) w1) := fun w1 hx => ⟨_, 2, rfl, hx, by rw [if_neg (by rw [HOK.out]; simp)]; exact ⟨rfl, rfl⟩⟩
    go_wp2
    go_ret2
    exact HF.out _ hx
set_option maxRecDepth 100000 in
set_option maxHeartbeats 8000000 in
theorem due_bad3 (v kv : Value) (r : Round) (rate : Int) (kept : List Int) (w : World) (hr : RoundAt w v r) (hk : IntsAt w kv kept) (hok : keptOk r rate kept = false) (hq1 : inB rate 0 1000 = true) (hq2 : kept.length = r.houses.length) (hq3 : kept.any (fun n => !inB n 0 143) = true) :
    Calls Tryz.prog 12 #[v, .int .i64 rate, kv] w (DueRes r rate kept w) := by
  obtain ⟨hv, rfl, hh⟩ := hr
  have hr' : RoundAt w (.agg (r.cells hv).toArray) r := ⟨hv, rfl, hh⟩
  obtain ⟨a, c, rfl, h1, h2, _⟩ := hh.open
  obtain ⟨ka, kc, rfl, k1, k2, _⟩ := hk.open
  have hx0 : Ext w (w.alloc (boxD r a c)) := (Ext.refl w).alloc _
  have HX0 := Lib.hid hx0
  have HA := Lib.hid (fun fine w1 (hx : Ext (w.alloc (boxD r a c)) w1) => (asked_any _ r fine w1 (hr'.ext (hx0.trans hx))).mono (fun e w' h => asked_parts h))
  have HB := Lib.hid (fun w1 (hx : Ext (w.alloc (boxD r a c)) w1) => round_cells ((hx.block (by simp)).trans (World.alloc_heap_new w (boxD r a c))))
  have HBK := Lib.hid (fun w1 w2 (b : Nat) (hx : Ext w1 w2) (h : w1.heap[b]? = some (.cells #[.slice none 0 0, .slice none 0 0, .slice none 0 0] 88 (0, 0))) => (hx.block (Array.getElem?_eq_some_iff.1 h).1).trans h)
  unfold Round.cells at *
  have hmix : Tryz.prog.follows .mixedOrders = true := by kernel_rfl
  have HK := Lib.hid hk
  have hbz := World.size_alloc w (boxD r a c)
  have HZ := Lib.hid hbz
  have HOK := Lib.hid hok
  have HIN := Lib.hid (fun w1 => hq1 ▸ in_any rate 0 1000 w1)
  have HC := Lib.hid (fun w1 (hx : Ext (w.alloc (boxD r a c)) w1) => hq3 ▸ contains_due1 _ kept w1 (hk.ext (HX0.out.trans hx)))
  have t1 : ((kept.length : Int) == (r.houses.length : Int)) = true := by rw [beq_iff_eq]; omega
  have t2 : (kept.length == r.houses.length) = true := by rw [beq_iff_eq]; omega
  clear hq1 hq2 hq3
  clear hr' hh hx0 hk hbz hok
  go_enter Tryz.func12, Tryz.ntmps12
  go_upto_region 1 with fail
  go_cut [8, 9] (fun s8 s9 W => DueCut r false w s8 s9 W)
  case first =>
    go_region_held3 (fun w' => w'.cell? ⟨w.heap.size, 0, none⟩ = some (.int .i64 r.per) ∧ w'.cell? ⟨w.heap.size, 1, none⟩ = some (.int .i64 r.lo) ∧ w'.cell? ⟨w.heap.size, 2, none⟩ = some (.int .i64 r.hi) ∧ w'.cell? ⟨w.heap.size, 3, none⟩ = some (.int .i64 r.card) ∧ w'.cell? ⟨w.heap.size, 4, none⟩ = some (.int .i64 r.slack) ∧ w'.cell? ⟨w.heap.size, 5, none⟩ = some (.slice a r.houses.length c) ∧ w'.cell? ⟨w.heap.size, 6, none⟩ = some (.int .i64 r.all) ∧ w'.cell? ⟨w.heap.size, 7, none⟩ = some (.int .i64 r.off))
      (first | go_keep | exact HB.out _ (by repeat (first | exact hx02 | exact hx01 | exact Ext.refl _ | apply Ext.drew | apply Ext.alloc | refine Ext.setCell ?_ (by rw [HZ.out]; first | (simp; done) | omega) _)))
      (first
        | (go_at_call 57; refine (HIN.out _).mono ?_; rintro e w' ⟨rfl, rfl⟩)
        | (go_at_call 58; refine (HC.out _ (by repeat (first | exact Ext.refl _ | apply Ext.drew | apply Ext.alloc))).mono ?_; rintro e w1 ⟨rfl, hx1⟩; have hx01 : Ext (w.alloc (boxD r a c)) w1 := (by repeat (first | exact Ext.refl _ | apply Ext.drew | apply Ext.alloc) : Ext _ _).trans hx1; have hz1 : w.heap.size + 1 ≤ w1.heap.size := by have := hx01.size; rw [HZ.out] at this; exact this
           first
             | have hpA := Lib.hid (HBK.out _ w1 (w.heap.size + 1) hx1 (two_new w _ _).2)
             | skip)
        | (go_at_call 56; refine (HA.out false _ (by repeat (first | exact hx01 | exact Ext.refl _ | apply Ext.drew | apply Ext.alloc))).mono ?_; rintro e w2 ⟨x0, x1, x2, err, a0, a1, a2, n0, n1, n2, c0, c1, c2, rfl, rfl, rfl, rfl, hx2, hq⟩; have HQ := Lib.hid hq; clear hq; have hx02 : Ext (w.alloc (boxD r a c)) w2 := (by repeat (first | exact hx01 | exact Ext.refl _ | apply Ext.drew | apply Ext.alloc) : Ext _ _).trans hx2; have hz2 : w.heap.size + 1 ≤ w2.heap.size := by have := hx02.size; rw [HZ.out] at this; exact this
           first
             | (have hpB := HBK.out _ w2 (w.heap.size + 1) hx2 hpA.out; obtain ⟨⟨f0, f1, f2⟩, ⟨g0, g1, g2⟩, k1, k2, k3, k4⟩ := box3 hpB (.slice a0 n0 c0) (.slice a1 n1 c1); have HPB := Lib.hid hpB; clear hpB)
             | (have hpB := HBK.out _ w2 w1.heap.size hx2 (World.alloc_heap_new w1 _); obtain ⟨⟨f0, f1, f2⟩, ⟨g0, g1, g2⟩, k1, k2, k3, k4⟩ := box3 hpB (.slice a0 n0 c0) (.slice a1 n1 c1); have HPB := Lib.hid hpB; clear hpB)
             | skip))
    all_goals (
      have hxw2 := HX0.out.trans hx02
      have hzw := hxw2.size
      go_wp2_with fail
      go_meet
      first
        | exact dueCut_new hxw2 (by have := hx01.size; rw [HZ.out] at this; omega) HQ.out
        | exact dueCut_old hxw2 (by rw [World.size_alloc]; omega) HPB.out (by rw [World.size_alloc]; omega) (by omega) HQ.out
        | exact dueCut_old hxw2 (by omega) HPB.out (by omega) (by omega) HQ.out
        | exact dueCut_old hxw2 (by omega) HPB.out (Array.getElem?_eq_some_iff.1 hpA.out).1 (by omega) HQ.out)
  case rest =>
    obtain ⟨pb, x0, x1, x2, err, rfl, rfl, hx, ⟨f0, f1, f2⟩, hq⟩ := hcut
    unfold AskPart at hq
    rw [if_neg (by simp)] at hq
    subst hq
    have HF : Hid (∀ w1, Ext w w1 → DueRes r rate kept w (.returned (.tuple #[.slice none 0 0, .int .i64 2])) w1) := fun w1 hx => ⟨_, 2, rfl, hx, by rw [if_neg (by rw [HOK.out]; simp)]; exact ⟨rfl, rfl⟩⟩
    go_wp2
    go_ret2
    exact HF.out _ hx
theorem due_any (v kv : Value) (r : Round) (rate : Int) (kept : List Int) (w : World) (hr : RoundAt w v r) (hk : IntsAt w kv kept) :
    Calls Tryz.prog 12 #[v, .int .i64 rate, kv] w (DueRes r rate kept w) := by
  cases hok : keptOk r rate kept with
  | true => exact due_ok v kv r rate kept w hr hk hok
  | false =>
    cases q1 : inB rate 0 1000 with
    | false => exact due_bad1 v kv r rate kept w hr hk hok q1
    | true =>
      by_cases q2 : kept.length = r.houses.length
      · refine due_bad3 v kv r rate kept w hr hk hok q1 q2 ?_
        unfold keptOk at hok
        rw [q1, decide_eq_true q2] at hok
        simpa using hok
      · exact due_bad2 v kv r rate kept w hr hk hok q1 q2
end Go.Proofs.YtpheidlocijdkaaGreatDoor
