/- The law CardShortest: the walk, whole. -/
import Derived.Test.YtpheidlocijdkaaGreatDoorTours
import Derived.Test.YtpheidlocijdkaaGreatDoorShortp
namespace Go.Proofs.YtpheidlocijdkaaGreatDoor
open Go.RowKit

set_option maxRecDepth 100000 in
set_option maxHeartbeats 16000000 in
theorem short_e0 (v : Value) (c : Roads) (hv : Value) (hs : List Int) (w : World) (hR : RoadsAt w v c) (hH : IntsAt w hv hs) (ht : TabOk w)
    (hsh : shortB c = false) : Calls Tryz.prog 5 #[v, hv] w (TrueP w) := by
  have hR' := hR
  have hH' := hH
  obtain ⟨lv, fv, rfl, hll, hff⟩ := hR
  obtain ⟨la, lk, rfl, l1, l2, _⟩ := hll.open
  obtain ⟨fa, fk, rfl, f1, f2, _⟩ := hff.open
  obtain ⟨ha, hk, rfl, k1, k2, _⟩ := hH.open
  have hx0 : Ext w (w.alloc (boxC c la fa lk fk)) := (Ext.refl w).alloc _
  have HX0 := Lib.hid hx0
  have HSH := Lib.hid (fun w1 (hx : Ext (w.alloc (boxC c la fa lk fk)) w1) => short_any _ c w1 (hR'.ext (hx0.trans hx)))
  have HRR0 := Lib.hid (fun (h0 : c.loads.length ≤ 1000) w1 (hx : Ext (w.alloc (boxC c la fa lk fk)) w1) => rroads_any _ c w1 (hR'.ext (hx0.trans hx)) h0)
  have HSO := Lib.hid (fun w1 (hx : Ext (w.alloc (boxC c la fa lk fk)) w1) => rsome_any _ _ c hs w1 (hR'.ext (hx0.trans hx)) (hH'.ext (hx0.trans hx)))
  have HSR0 := Lib.hid (fun (h0 : hs.length ≤ 1000) w1 (hx : Ext (w.alloc (boxC c la fa lk fk)) w1) => sort_any _ hs w1 (hH'.ext (hx0.trans hx)) h0)
  have HRI := Lib.hid (fun w1 (hx : Ext (w.alloc (boxC c la fa lk fk)) w1) u (hu : IntsAt w1 u (srt hs)) => rrising_any u (srt hs) w1 hu)
  have HLO0 := Lib.hid (fun (hb : RoadsB c) hst (h0 : hs.length ≤ 1000) w1 (hx : Ext (w.alloc (boxC c la fa lk fk)) w1) => rload_any _ _ c hs w1 hb (hR'.ext (hx0.trans hx)) (hH'.ext (hx0.trans hx)) hst h0)
  have HL := Lib.hid (fun w1 (hx : Ext (w.alloc (boxC c la fa lk fk)) w1) => lknown_any w1 (ht.ext (hx0.trans hx)))
  have HB := Lib.hid (fun W (h : Ext (w.alloc (boxC c la fa lk fk)) W) => boxC_cells ((h.block (by simp)).trans (World.alloc_heap_new w (boxC c la fa lk fk))))
  have hmix : Tryz.prog.follows .mixedOrders = true := by kernel_rfl
  rw [hsh] at HSH
  clear hR' hH' hll hff hH hx0 ht
  clear hsh HRR0 HLO0
  go_enter Tryz.func5, Tryz.ntmps5
  go_upto_region 1 with fail
  refine wp_region_held_drew (S := (fun w' => w'.cell? ⟨w.heap.size, 0, none⟩ = some (.slice la c.loads.length lk) ∧ w'.cell? ⟨w.heap.size, 1, none⟩ = some (.int .i64 c.bears) ∧ w'.cell? ⟨w.heap.size, 2, none⟩ = some (.slice fa c.far.length fk))) (by kernel_rfl) ?_ (fun hHeld => ?_)
  · exact HB.out _ (Ext.refl _).drew
  refine held_take (i := 0) (d := some 9) (v := ?_) (by kernel_rfl) (by kernel_rfl) (by kernel_rfl) (by kernel_rfl) (fun _ _ _ h => h) (fun o ho => ?_) hHeld ?_
  rotate_left
  · simp only [List.getElem?_toArray, List.getElem?_cons_zero, Option.some.injEq] at ho
    subst ho
    refine ⟨by rfl, fun w hSw => ?_⟩
    (try dsimp only at hSw)
    go_simp
    try with_reducible rfl
  try simp only [Act.put, List.setIfInBounds_toArray, List.set_cons_zero, List.set_cons_succ]
  refine wpAnyH_ready (rs := [1]) (by kernel_rfl) (by simp) ?_
  refine held_step (i := 1) (by kernel_rfl) (fun o ho K' hK => ?_) ?_
  · simp only [List.getElem?_toArray, List.getElem?_cons_zero, List.getElem?_cons_succ, Option.some.injEq] at ho
    subst ho
    go_simp
    go_at_call 19; refine (HSH.out _ (by first | exact (Ext.refl _).drew)).mono ?_; rintro e w1 ⟨rfl, hx1⟩; have hy1 := Ext.trans ((Ext.refl (w.alloc (boxC c la fa lk fk))).drew) hx1
    try go_wp2_with fail
    refine hK.out _ _ ?_ (fun hHeld => ?_)
    · (first | go_keep | exact HB.out _ (by first | exact hy15 | exact hy14 | exact hy13 | exact hy12 | exact hy11 | exact hy10 | exact hy9 | exact hy8 | exact hy7 | exact hy6 | exact hy5 | exact hy4 | exact hy3 | exact hy2 | exact hy1 | exact (Ext.refl _).drew))
    clear hK K'
    try simp only [List.setIfInBounds_toArray, List.set_cons_zero, List.set_cons_succ]
    refine held_take (i := 2) (d := some 11) (v := ?_) (by kernel_rfl) (by kernel_rfl) (by kernel_rfl) (by kernel_rfl) (fun _ _ _ h => h) (fun o ho => ?_) hHeld ?_
    rotate_left
    · simp only [List.getElem?_toArray, List.getElem?_cons_zero, List.getElem?_cons_succ, Option.some.injEq] at ho
      subst ho
      refine ⟨by rfl, fun w hSw => ?_⟩
      (try dsimp only at hSw)
      go_simp
      try with_reducible rfl
    try simp only [Act.put, List.setIfInBounds_toArray, List.set_cons_zero, List.set_cons_succ]
    refine held_take (i := 3) (d := some 12) (v := ?_) (by kernel_rfl) (by kernel_rfl) (by kernel_rfl) (by kernel_rfl) (fun _ _ _ h => h) (fun o ho => ?_) hHeld ?_
    rotate_left
    · simp only [List.getElem?_toArray, List.getElem?_cons_zero, List.getElem?_cons_succ, Option.some.injEq] at ho
      subst ho
      refine ⟨by rfl, fun w hSw => ?_⟩
      (try dsimp only at hSw)
      go_simp
      try with_reducible rfl
    try simp only [Act.put, List.setIfInBounds_toArray, List.set_cons_zero, List.set_cons_succ]
    refine held_skips (is := [4, 5, 6]) (k := 3) (l' := #[true, true, true, true, true, true, true, false, false, false, false, false, false, false, false, false, false, false, false, false, false, false, false, false, false, false, false, false, false, false, false, false, false, false, false, false, false, false]) (by kernel_rfl) rfl (by assumption) ?_
    refine held_take (i := 7) (d := some 16) (v := ?_) (by kernel_rfl) (by kernel_rfl) (by kernel_rfl) (by kernel_rfl) (fun _ _ _ h => h) (fun o ho => ?_) hHeld ?_
    rotate_left
    · simp only [List.getElem?_toArray, List.getElem?_cons_zero, List.getElem?_cons_succ, Option.some.injEq] at ho
      subst ho
      refine ⟨by rfl, fun w hSw => ?_⟩
      (try dsimp only at hSw)
      go_simp
      try with_reducible rfl
    try simp only [Act.put, List.setIfInBounds_toArray, List.set_cons_zero, List.set_cons_succ]
    refine held_take (i := 8) (d := some 17) (v := ?_) (by kernel_rfl) (by kernel_rfl) (by kernel_rfl) (by kernel_rfl) (fun _ _ _ h => h) (fun o ho => ?_) hHeld ?_
    rotate_left
    · simp only [List.getElem?_toArray, List.getElem?_cons_zero, List.getElem?_cons_succ, Option.some.injEq] at ho
      subst ho
      refine ⟨by rfl, fun w hSw => ?_⟩
      (try dsimp only at hSw)
      go_simp
      try with_reducible rfl
    try simp only [Act.put, List.setIfInBounds_toArray, List.set_cons_zero, List.set_cons_succ]
    refine held_skips (is := [9, 10, 11]) (k := 3) (l' := #[true, true, true, true, true, true, true, true, true, true, true, true, false, false, false, false, false, false, false, false, false, false, false, false, false, false, false, false, false, false, false, false, false, false, false, false, false, false]) (by kernel_rfl) rfl (by assumption) ?_
    refine held_take (i := 12) (d := some 21) (v := ?_) (by kernel_rfl) (by kernel_rfl) (by kernel_rfl) (by kernel_rfl) (fun _ _ _ h => h) (fun o ho => ?_) hHeld ?_
    rotate_left
    · simp only [List.getElem?_toArray, List.getElem?_cons_zero, List.getElem?_cons_succ, Option.some.injEq] at ho
      subst ho
      refine ⟨by rfl, fun w hSw => ?_⟩
      (try dsimp only at hSw)
      go_simp
      try with_reducible rfl
    try simp only [Act.put, List.setIfInBounds_toArray, List.set_cons_zero, List.set_cons_succ]
    refine held_take (i := 13) (d := some 22) (v := ?_) (by kernel_rfl) (by kernel_rfl) (by kernel_rfl) (by kernel_rfl) (fun _ _ _ h => h) (fun o ho => ?_) hHeld ?_
    rotate_left
    · simp only [List.getElem?_toArray, List.getElem?_cons_zero, List.getElem?_cons_succ, Option.some.injEq] at ho
      subst ho
      refine ⟨by rfl, fun w hSw => ?_⟩
      (try dsimp only at hSw)
      go_simp
      try with_reducible rfl
    try simp only [Act.put, List.setIfInBounds_toArray, List.set_cons_zero, List.set_cons_succ]
    refine held_skips (is := [14, 15, 16]) (k := 3) (l' := #[true, true, true, true, true, true, true, true, true, true, true, true, true, true, true, true, true, false, false, false, false, false, false, false, false, false, false, false, false, false, false, false, false, false, false, false, false, false]) (by kernel_rfl) rfl (by assumption) ?_
    refine held_take (i := 17) (d := some 26) (v := ?_) (by kernel_rfl) (by kernel_rfl) (by kernel_rfl) (by kernel_rfl) (fun _ _ _ h => h) (fun o ho => ?_) hHeld ?_
    rotate_left
    · simp only [List.getElem?_toArray, List.getElem?_cons_zero, List.getElem?_cons_succ, Option.some.injEq] at ho
      subst ho
      refine ⟨by rfl, fun w hSw => ?_⟩
      (try dsimp only at hSw)
      go_simp
      try with_reducible rfl
    try simp only [Act.put, List.setIfInBounds_toArray, List.set_cons_zero, List.set_cons_succ]
    refine held_take (i := 18) (d := some 27) (v := ?_) (by kernel_rfl) (by kernel_rfl) (by kernel_rfl) (by kernel_rfl) (fun _ _ _ h => h) (fun o ho => ?_) hHeld ?_
    rotate_left
    · simp only [List.getElem?_toArray, List.getElem?_cons_zero, List.getElem?_cons_succ, Option.some.injEq] at ho
      subst ho
      refine ⟨by rfl, fun w hSw => ?_⟩
      (try dsimp only at hSw)
      go_simp
      try with_reducible rfl
    try simp only [Act.put, List.setIfInBounds_toArray, List.set_cons_zero, List.set_cons_succ]
    refine held_skips (is := [19, 20, 21, 22]) (k := 4) (l' := #[true, true, true, true, true, true, true, true, true, true, true, true, true, true, true, true, true, true, true, true, true, true, true, false, false, false, false, false, false, false, false, false, false, false, false, false, false, false]) (by kernel_rfl) rfl (by assumption) ?_
    refine held_take (i := 23) (d := some 32) (v := ?_) (by kernel_rfl) (by kernel_rfl) (by kernel_rfl) (by kernel_rfl) (fun _ _ _ h => h) (fun o ho => ?_) hHeld ?_
    rotate_left
    · simp only [List.getElem?_toArray, List.getElem?_cons_zero, List.getElem?_cons_succ, Option.some.injEq] at ho
      subst ho
      refine ⟨by rfl, fun w hSw => ?_⟩
      (try dsimp only at hSw)
      go_simp
      try with_reducible rfl
    try simp only [Act.put, List.setIfInBounds_toArray, List.set_cons_zero, List.set_cons_succ]
    refine held_take (i := 24) (d := some 33) (v := ?_) (by kernel_rfl) (by kernel_rfl) (by kernel_rfl) (by kernel_rfl) (fun _ _ _ h => h) (fun o ho => ?_) hHeld ?_
    rotate_left
    · simp only [List.getElem?_toArray, List.getElem?_cons_zero, List.getElem?_cons_succ, Option.some.injEq] at ho
      subst ho
      refine ⟨by rfl, fun w hSw => ?_⟩
      (try dsimp only at hSw)
      go_simp
      try with_reducible rfl
    try simp only [Act.put, List.setIfInBounds_toArray, List.set_cons_zero, List.set_cons_succ]
    refine held_skips (is := [25, 26, 27, 28]) (k := 4) (l' := #[true, true, true, true, true, true, true, true, true, true, true, true, true, true, true, true, true, true, true, true, true, true, true, true, true, true, true, true, true, false, false, false, false, false, false, false, false, false]) (by kernel_rfl) rfl (by assumption) ?_
    refine held_take (i := 29) (d := some 38) (v := ?_) (by kernel_rfl) (by kernel_rfl) (by kernel_rfl) (by kernel_rfl) (fun _ _ _ h => h) (fun o ho => ?_) hHeld ?_
    rotate_left
    · simp only [List.getElem?_toArray, List.getElem?_cons_zero, List.getElem?_cons_succ, Option.some.injEq] at ho
      subst ho
      refine ⟨by rfl, fun w hSw => ?_⟩
      (try dsimp only at hSw)
      go_simp
      try with_reducible rfl
    try simp only [Act.put, List.setIfInBounds_toArray, List.set_cons_zero, List.set_cons_succ]
    refine held_take (i := 30) (d := some 39) (v := ?_) (by kernel_rfl) (by kernel_rfl) (by kernel_rfl) (by kernel_rfl) (fun _ _ _ h => h) (fun o ho => ?_) hHeld ?_
    rotate_left
    · simp only [List.getElem?_toArray, List.getElem?_cons_zero, List.getElem?_cons_succ, Option.some.injEq] at ho
      subst ho
      refine ⟨by rfl, fun w hSw => ?_⟩
      (try dsimp only at hSw)
      go_simp
      try with_reducible rfl
    try simp only [Act.put, List.setIfInBounds_toArray, List.set_cons_zero, List.set_cons_succ]
    refine held_skips (is := [31, 32, 33, 34, 35, 36]) (k := 6) (l' := #[true, true, true, true, true, true, true, true, true, true, true, true, true, true, true, true, true, true, true, true, true, true, true, true, true, true, true, true, true, true, true, true, true, true, true, true, true, false]) (by kernel_rfl) rfl (by assumption) ?_
    refine held_take (i := 37) (d := some 46) (v := ?_) (by kernel_rfl) (by kernel_rfl) (by kernel_rfl) (by kernel_rfl) (fun _ _ _ h => h) (fun o ho => ?_) hHeld ?_
    rotate_left
    · simp only [List.getElem?_toArray, List.getElem?_cons_zero, List.getElem?_cons_succ, Option.some.injEq] at ho
      subst ho
      refine ⟨by rfl, fun w hSw => ?_⟩
      (try dsimp only at hSw)
      go_simp
      try with_reducible rfl
    try simp only [Act.put, List.setIfInBounds_toArray, List.set_cons_zero, List.set_cons_succ]
    refine wpAnyH_done (by kernel_rfl) ?_ _
    try simp only [List.setIfInBounds_toArray, List.set_cons_zero, List.set_cons_succ]
    go_wp2_with (go_at_call 11; refine (HL.out _ hy1).mono ?_; rintro e wk ⟨rfl, hxk⟩)
    go_ret
    exact ⟨rfl, (HX0.out.trans hy1).trans hxk⟩
  exact AllReadyH.nil

set_option maxRecDepth 100000 in
set_option maxHeartbeats 16000000 in
theorem short_e1 (v : Value) (c : Roads) (hv : Value) (hs : List Int) (w : World) (hR : RoadsAt w v c) (hH : IntsAt w hv hs) (ht : TabOk w)
    (hsh : shortB c = true) (hlong : 7 < hs.length) : Calls Tryz.prog 5 #[v, hv] w (TrueP w) := by
  have hR' := hR
  have hH' := hH
  obtain ⟨lv, fv, rfl, hll, hff⟩ := hR
  obtain ⟨la, lk, rfl, l1, l2, _⟩ := hll.open
  obtain ⟨fa, fk, rfl, f1, f2, _⟩ := hff.open
  obtain ⟨ha, hk, rfl, k1, k2, _⟩ := hH.open
  have hx0 : Ext w (w.alloc (boxC c la fa lk fk)) := (Ext.refl w).alloc _
  have HX0 := Lib.hid hx0
  have HSH := Lib.hid (fun w1 (hx : Ext (w.alloc (boxC c la fa lk fk)) w1) => short_any _ c w1 (hR'.ext (hx0.trans hx)))
  have HRR0 := Lib.hid (fun (h0 : c.loads.length ≤ 1000) w1 (hx : Ext (w.alloc (boxC c la fa lk fk)) w1) => rroads_any _ c w1 (hR'.ext (hx0.trans hx)) h0)
  have HSO := Lib.hid (fun w1 (hx : Ext (w.alloc (boxC c la fa lk fk)) w1) => rsome_any _ _ c hs w1 (hR'.ext (hx0.trans hx)) (hH'.ext (hx0.trans hx)))
  have HSR0 := Lib.hid (fun (h0 : hs.length ≤ 1000) w1 (hx : Ext (w.alloc (boxC c la fa lk fk)) w1) => sort_any _ hs w1 (hH'.ext (hx0.trans hx)) h0)
  have HRI := Lib.hid (fun w1 (hx : Ext (w.alloc (boxC c la fa lk fk)) w1) u (hu : IntsAt w1 u (srt hs)) => rrising_any u (srt hs) w1 hu)
  have HLO0 := Lib.hid (fun (hb : RoadsB c) hst (h0 : hs.length ≤ 1000) w1 (hx : Ext (w.alloc (boxC c la fa lk fk)) w1) => rload_any _ _ c hs w1 hb (hR'.ext (hx0.trans hx)) (hH'.ext (hx0.trans hx)) hst h0)
  have HL := Lib.hid (fun w1 (hx : Ext (w.alloc (boxC c la fa lk fk)) w1) => lknown_any w1 (ht.ext (hx0.trans hx)))
  have HB := Lib.hid (fun W (h : Ext (w.alloc (boxC c la fa lk fk)) W) => boxC_cells ((h.block (by simp)).trans (World.alloc_heap_new w (boxC c la fa lk fk))))
  have hmix : Tryz.prog.follows .mixedOrders = true := by kernel_rfl
  rw [hsh] at HSH
  have hL7 : c.loads.length ≤ 7 := by
    unfold shortB at hsh
    simp only [Bool.and_eq_true, decide_eq_true_eq] at hsh
    omega
  have HRR := Lib.hid (HRR0.out (by omega))
  have x1 : decide ((7 : Int) < (hs.length : Int)) = true := by simp; omega
  clear hR' hH' hll hff hH hx0 ht
  clear hsh HRR0 HLO0 hlong
  go_enter Tryz.func5, Tryz.ntmps5
  go_upto_region 1 with fail
  refine wp_region_held_drew (S := (fun w' => w'.cell? ⟨w.heap.size, 0, none⟩ = some (.slice la c.loads.length lk) ∧ w'.cell? ⟨w.heap.size, 1, none⟩ = some (.int .i64 c.bears) ∧ w'.cell? ⟨w.heap.size, 2, none⟩ = some (.slice fa c.far.length fk))) (by kernel_rfl) ?_ (fun hHeld => ?_)
  · exact HB.out _ (Ext.refl _).drew
  refine held_take (i := 0) (d := some 9) (v := ?_) (by kernel_rfl) (by kernel_rfl) (by kernel_rfl) (by kernel_rfl) (fun _ _ _ h => h) (fun o ho => ?_) hHeld ?_
  rotate_left
  · simp only [List.getElem?_toArray, List.getElem?_cons_zero, Option.some.injEq] at ho
    subst ho
    refine ⟨by rfl, fun w hSw => ?_⟩
    (try dsimp only at hSw)
    go_simp
    try with_reducible rfl
  try simp only [Act.put, List.setIfInBounds_toArray, List.set_cons_zero, List.set_cons_succ]
  refine wpAnyH_ready (rs := [1]) (by kernel_rfl) (by simp) ?_
  refine held_step (i := 1) (by kernel_rfl) (fun o ho K' hK => ?_) ?_
  · simp only [List.getElem?_toArray, List.getElem?_cons_zero, List.getElem?_cons_succ, Option.some.injEq] at ho
    subst ho
    go_simp
    go_at_call 19; refine (HSH.out _ (by first | exact (Ext.refl _).drew)).mono ?_; rintro e w1 ⟨rfl, hx1⟩; have hy1 := Ext.trans ((Ext.refl (w.alloc (boxC c la fa lk fk))).drew) hx1
    try go_wp2_with fail
    refine hK.out _ _ ?_ (fun hHeld => ?_)
    · (first | go_keep | exact HB.out _ (by first | exact hy15 | exact hy14 | exact hy13 | exact hy12 | exact hy11 | exact hy10 | exact hy9 | exact hy8 | exact hy7 | exact hy6 | exact hy5 | exact hy4 | exact hy3 | exact hy2 | exact hy1 | exact (Ext.refl _).drew))
    clear hK K'
    try simp only [List.setIfInBounds_toArray, List.set_cons_zero, List.set_cons_succ]
    refine held_take (i := 2) (d := some 11) (v := ?_) (by kernel_rfl) (by kernel_rfl) (by kernel_rfl) (by kernel_rfl) (fun _ _ _ h => h) (fun o ho => ?_) hHeld ?_
    rotate_left
    · simp only [List.getElem?_toArray, List.getElem?_cons_zero, List.getElem?_cons_succ, Option.some.injEq] at ho
      subst ho
      refine ⟨by rfl, fun w hSw => ?_⟩
      (try dsimp only at hSw)
      go_simp
      try with_reducible rfl
    try simp only [Act.put, List.setIfInBounds_toArray, List.set_cons_zero, List.set_cons_succ]
    refine held_take (i := 3) (d := some 12) (v := ?_) (by kernel_rfl) (by kernel_rfl) (by kernel_rfl) (by kernel_rfl) (fun _ _ _ h => h) (fun o ho => ?_) hHeld ?_
    rotate_left
    · simp only [List.getElem?_toArray, List.getElem?_cons_zero, List.getElem?_cons_succ, Option.some.injEq] at ho
      subst ho
      refine ⟨by rfl, fun w hSw => ?_⟩
      (try dsimp only at hSw)
      go_simp
      try with_reducible rfl
    try simp only [Act.put, List.setIfInBounds_toArray, List.set_cons_zero, List.set_cons_succ]
    refine held_take (i := 4) (d := some 13) (v := ?_) (by kernel_rfl) (by kernel_rfl) (by kernel_rfl) (by kernel_rfl) (fun _ _ _ h => h) (fun o ho => ?_) hHeld ?_
    rotate_left
    · simp only [List.getElem?_toArray, List.getElem?_cons_zero, List.getElem?_cons_succ, Option.some.injEq] at ho
      subst ho
      refine ⟨by rfl, fun w hSw => ?_⟩
      (try dsimp only at hSw)
      go_simp
      try with_reducible rfl
    try simp only [Act.put, List.setIfInBounds_toArray, List.set_cons_zero, List.set_cons_succ]
    refine held_take (i := 5) (d := some 14) (v := ?_) (by kernel_rfl) (by kernel_rfl) (by kernel_rfl) (by kernel_rfl) (fun _ _ _ h => h) (fun o ho => ?_) hHeld ?_
    rotate_left
    · simp only [List.getElem?_toArray, List.getElem?_cons_zero, List.getElem?_cons_succ, Option.some.injEq] at ho
      subst ho
      refine ⟨by rfl, fun w hSw => ?_⟩
      (try dsimp only at hSw)
      go_simp
      try with_reducible rfl
    try simp only [Act.put, List.setIfInBounds_toArray, List.set_cons_zero, List.set_cons_succ]
    refine held_take (i := 6) (d := some 15) (v := ?_) (by kernel_rfl) (by kernel_rfl) (by kernel_rfl) (by kernel_rfl) (fun _ _ _ h => h) (fun o ho => ?_) hHeld ?_
    rotate_left
    · simp only [List.getElem?_toArray, List.getElem?_cons_zero, List.getElem?_cons_succ, Option.some.injEq] at ho
      subst ho
      refine ⟨by rfl, fun w hSw => ?_⟩
      (try dsimp only at hSw)
      go_simp
      try with_reducible rfl
    try simp only [Act.put, List.setIfInBounds_toArray, List.set_cons_zero, List.set_cons_succ]
    refine held_take (i := 7) (d := some 16) (v := ?_) (by kernel_rfl) (by kernel_rfl) (by kernel_rfl) (by kernel_rfl) (fun _ _ _ h => h) (fun o ho => ?_) hHeld ?_
    rotate_left
    · simp only [List.getElem?_toArray, List.getElem?_cons_zero, List.getElem?_cons_succ, Option.some.injEq] at ho
      subst ho
      refine ⟨by rfl, fun w hSw => ?_⟩
      (try dsimp only at hSw)
      go_simp
      try with_reducible rfl
    try simp only [Act.put, List.setIfInBounds_toArray, List.set_cons_zero, List.set_cons_succ]
    refine held_take (i := 8) (d := some 17) (v := ?_) (by kernel_rfl) (by kernel_rfl) (by kernel_rfl) (by kernel_rfl) (fun _ _ _ h => h) (fun o ho => ?_) hHeld ?_
    rotate_left
    · simp only [List.getElem?_toArray, List.getElem?_cons_zero, List.getElem?_cons_succ, Option.some.injEq] at ho
      subst ho
      refine ⟨by rfl, fun w hSw => ?_⟩
      (try dsimp only at hSw)
      go_simp
      try with_reducible rfl
    try simp only [Act.put, List.setIfInBounds_toArray, List.set_cons_zero, List.set_cons_succ]
    refine held_skips (is := [9, 10, 11]) (k := 3) (l' := #[true, true, true, true, true, true, true, true, true, true, true, true, false, false, false, false, false, false, false, false, false, false, false, false, false, false, false, false, false, false, false, false, false, false, false, false, false, false]) (by kernel_rfl) rfl (by assumption) ?_
    refine held_take (i := 12) (d := some 21) (v := ?_) (by kernel_rfl) (by kernel_rfl) (by kernel_rfl) (by kernel_rfl) (fun _ _ _ h => h) (fun o ho => ?_) hHeld ?_
    rotate_left
    · simp only [List.getElem?_toArray, List.getElem?_cons_zero, List.getElem?_cons_succ, Option.some.injEq] at ho
      subst ho
      refine ⟨by rfl, fun w hSw => ?_⟩
      (try dsimp only at hSw)
      go_simp
      try with_reducible rfl
    try simp only [Act.put, List.setIfInBounds_toArray, List.set_cons_zero, List.set_cons_succ]
    refine held_take (i := 13) (d := some 22) (v := ?_) (by kernel_rfl) (by kernel_rfl) (by kernel_rfl) (by kernel_rfl) (fun _ _ _ h => h) (fun o ho => ?_) hHeld ?_
    rotate_left
    · simp only [List.getElem?_toArray, List.getElem?_cons_zero, List.getElem?_cons_succ, Option.some.injEq] at ho
      subst ho
      refine ⟨by rfl, fun w hSw => ?_⟩
      (try dsimp only at hSw)
      go_simp
      try with_reducible rfl
    try simp only [Act.put, List.setIfInBounds_toArray, List.set_cons_zero, List.set_cons_succ]
    refine held_skips (is := [14, 15, 16]) (k := 3) (l' := #[true, true, true, true, true, true, true, true, true, true, true, true, true, true, true, true, true, false, false, false, false, false, false, false, false, false, false, false, false, false, false, false, false, false, false, false, false, false]) (by kernel_rfl) rfl (by assumption) ?_
    refine held_take (i := 17) (d := some 26) (v := ?_) (by kernel_rfl) (by kernel_rfl) (by kernel_rfl) (by kernel_rfl) (fun _ _ _ h => h) (fun o ho => ?_) hHeld ?_
    rotate_left
    · simp only [List.getElem?_toArray, List.getElem?_cons_zero, List.getElem?_cons_succ, Option.some.injEq] at ho
      subst ho
      refine ⟨by rfl, fun w hSw => ?_⟩
      (try dsimp only at hSw)
      go_simp
      try with_reducible rfl
    try simp only [Act.put, List.setIfInBounds_toArray, List.set_cons_zero, List.set_cons_succ]
    refine held_take (i := 18) (d := some 27) (v := ?_) (by kernel_rfl) (by kernel_rfl) (by kernel_rfl) (by kernel_rfl) (fun _ _ _ h => h) (fun o ho => ?_) hHeld ?_
    rotate_left
    · simp only [List.getElem?_toArray, List.getElem?_cons_zero, List.getElem?_cons_succ, Option.some.injEq] at ho
      subst ho
      refine ⟨by rfl, fun w hSw => ?_⟩
      (try dsimp only at hSw)
      go_simp
      try with_reducible rfl
    try simp only [Act.put, List.setIfInBounds_toArray, List.set_cons_zero, List.set_cons_succ]
    refine held_skips (is := [19, 20, 21, 22]) (k := 4) (l' := #[true, true, true, true, true, true, true, true, true, true, true, true, true, true, true, true, true, true, true, true, true, true, true, false, false, false, false, false, false, false, false, false, false, false, false, false, false, false]) (by kernel_rfl) rfl (by assumption) ?_
    refine held_take (i := 23) (d := some 32) (v := ?_) (by kernel_rfl) (by kernel_rfl) (by kernel_rfl) (by kernel_rfl) (fun _ _ _ h => h) (fun o ho => ?_) hHeld ?_
    rotate_left
    · simp only [List.getElem?_toArray, List.getElem?_cons_zero, List.getElem?_cons_succ, Option.some.injEq] at ho
      subst ho
      refine ⟨by rfl, fun w hSw => ?_⟩
      (try dsimp only at hSw)
      go_simp
      try with_reducible rfl
    try simp only [Act.put, List.setIfInBounds_toArray, List.set_cons_zero, List.set_cons_succ]
    refine held_take (i := 24) (d := some 33) (v := ?_) (by kernel_rfl) (by kernel_rfl) (by kernel_rfl) (by kernel_rfl) (fun _ _ _ h => h) (fun o ho => ?_) hHeld ?_
    rotate_left
    · simp only [List.getElem?_toArray, List.getElem?_cons_zero, List.getElem?_cons_succ, Option.some.injEq] at ho
      subst ho
      refine ⟨by rfl, fun w hSw => ?_⟩
      (try dsimp only at hSw)
      go_simp
      try with_reducible rfl
    try simp only [Act.put, List.setIfInBounds_toArray, List.set_cons_zero, List.set_cons_succ]
    refine held_skips (is := [25, 26, 27, 28]) (k := 4) (l' := #[true, true, true, true, true, true, true, true, true, true, true, true, true, true, true, true, true, true, true, true, true, true, true, true, true, true, true, true, true, false, false, false, false, false, false, false, false, false]) (by kernel_rfl) rfl (by assumption) ?_
    refine held_take (i := 29) (d := some 38) (v := ?_) (by kernel_rfl) (by kernel_rfl) (by kernel_rfl) (by kernel_rfl) (fun _ _ _ h => h) (fun o ho => ?_) hHeld ?_
    rotate_left
    · simp only [List.getElem?_toArray, List.getElem?_cons_zero, List.getElem?_cons_succ, Option.some.injEq] at ho
      subst ho
      refine ⟨by rfl, fun w hSw => ?_⟩
      (try dsimp only at hSw)
      go_simp
      try with_reducible rfl
    try simp only [Act.put, List.setIfInBounds_toArray, List.set_cons_zero, List.set_cons_succ]
    refine held_take (i := 30) (d := some 39) (v := ?_) (by kernel_rfl) (by kernel_rfl) (by kernel_rfl) (by kernel_rfl) (fun _ _ _ h => h) (fun o ho => ?_) hHeld ?_
    rotate_left
    · simp only [List.getElem?_toArray, List.getElem?_cons_zero, List.getElem?_cons_succ, Option.some.injEq] at ho
      subst ho
      refine ⟨by rfl, fun w hSw => ?_⟩
      (try dsimp only at hSw)
      go_simp
      try with_reducible rfl
    try simp only [Act.put, List.setIfInBounds_toArray, List.set_cons_zero, List.set_cons_succ]
    refine held_skips (is := [31, 32, 33, 34, 35, 36]) (k := 6) (l' := #[true, true, true, true, true, true, true, true, true, true, true, true, true, true, true, true, true, true, true, true, true, true, true, true, true, true, true, true, true, true, true, true, true, true, true, true, true, false]) (by kernel_rfl) rfl (by assumption) ?_
    refine held_take (i := 37) (d := some 46) (v := ?_) (by kernel_rfl) (by kernel_rfl) (by kernel_rfl) (by kernel_rfl) (fun _ _ _ h => h) (fun o ho => ?_) hHeld ?_
    rotate_left
    · simp only [List.getElem?_toArray, List.getElem?_cons_zero, List.getElem?_cons_succ, Option.some.injEq] at ho
      subst ho
      refine ⟨by rfl, fun w hSw => ?_⟩
      (try dsimp only at hSw)
      go_simp
      try with_reducible rfl
    try simp only [Act.put, List.setIfInBounds_toArray, List.set_cons_zero, List.set_cons_succ]
    refine wpAnyH_done (by kernel_rfl) ?_ _
    try simp only [List.setIfInBounds_toArray, List.set_cons_zero, List.set_cons_succ]
    go_wp2_with (go_at_call 11; refine (HL.out _ hy1).mono ?_; rintro e wk ⟨rfl, hxk⟩)
    go_ret
    exact ⟨rfl, (HX0.out.trans hy1).trans hxk⟩
  exact AllReadyH.nil

set_option maxRecDepth 100000 in
set_option maxHeartbeats 16000000 in
theorem short_e2 (v : Value) (c : Roads) (hv : Value) (hs : List Int) (w : World) (hR : RoadsAt w v c) (hH : IntsAt w hv hs) (ht : TabOk w)
    (hsh : shortB c = true) (hlong : hs.length ≤ 7) (hr : isRoadsB c = false) : Calls Tryz.prog 5 #[v, hv] w (TrueP w) := by
  have hR' := hR
  have hH' := hH
  obtain ⟨lv, fv, rfl, hll, hff⟩ := hR
  obtain ⟨la, lk, rfl, l1, l2, _⟩ := hll.open
  obtain ⟨fa, fk, rfl, f1, f2, _⟩ := hff.open
  obtain ⟨ha, hk, rfl, k1, k2, _⟩ := hH.open
  have hx0 : Ext w (w.alloc (boxC c la fa lk fk)) := (Ext.refl w).alloc _
  have HX0 := Lib.hid hx0
  have HSH := Lib.hid (fun w1 (hx : Ext (w.alloc (boxC c la fa lk fk)) w1) => short_any _ c w1 (hR'.ext (hx0.trans hx)))
  have HRR0 := Lib.hid (fun (h0 : c.loads.length ≤ 1000) w1 (hx : Ext (w.alloc (boxC c la fa lk fk)) w1) => rroads_any _ c w1 (hR'.ext (hx0.trans hx)) h0)
  have HSO := Lib.hid (fun w1 (hx : Ext (w.alloc (boxC c la fa lk fk)) w1) => rsome_any _ _ c hs w1 (hR'.ext (hx0.trans hx)) (hH'.ext (hx0.trans hx)))
  have HSR0 := Lib.hid (fun (h0 : hs.length ≤ 1000) w1 (hx : Ext (w.alloc (boxC c la fa lk fk)) w1) => sort_any _ hs w1 (hH'.ext (hx0.trans hx)) h0)
  have HRI := Lib.hid (fun w1 (hx : Ext (w.alloc (boxC c la fa lk fk)) w1) u (hu : IntsAt w1 u (srt hs)) => rrising_any u (srt hs) w1 hu)
  have HLO0 := Lib.hid (fun (hb : RoadsB c) hst (h0 : hs.length ≤ 1000) w1 (hx : Ext (w.alloc (boxC c la fa lk fk)) w1) => rload_any _ _ c hs w1 hb (hR'.ext (hx0.trans hx)) (hH'.ext (hx0.trans hx)) hst h0)
  have HL := Lib.hid (fun w1 (hx : Ext (w.alloc (boxC c la fa lk fk)) w1) => lknown_any w1 (ht.ext (hx0.trans hx)))
  have HB := Lib.hid (fun W (h : Ext (w.alloc (boxC c la fa lk fk)) W) => boxC_cells ((h.block (by simp)).trans (World.alloc_heap_new w (boxC c la fa lk fk))))
  have hmix : Tryz.prog.follows .mixedOrders = true := by kernel_rfl
  rw [hsh] at HSH
  have hL7 : c.loads.length ≤ 7 := by
    unfold shortB at hsh
    simp only [Bool.and_eq_true, decide_eq_true_eq] at hsh
    omega
  have HRR := Lib.hid (HRR0.out (by omega))
  have x1 : decide ((7 : Int) < (hs.length : Int)) = false := by simp; omega
  have h7 := hlong
  have HSR := Lib.hid (HSR0.out (by omega))
  rw [hr] at HRR
  clear hR' hH' hll hff hH hx0 ht
  clear hsh HRR0 HLO0 hlong hr HSR0
  go_enter Tryz.func5, Tryz.ntmps5
  go_upto_region 1 with fail
  refine wp_region_held_drew (S := (fun w' => w'.cell? ⟨w.heap.size, 0, none⟩ = some (.slice la c.loads.length lk) ∧ w'.cell? ⟨w.heap.size, 1, none⟩ = some (.int .i64 c.bears) ∧ w'.cell? ⟨w.heap.size, 2, none⟩ = some (.slice fa c.far.length fk))) (by kernel_rfl) ?_ (fun hHeld => ?_)
  · exact HB.out _ (Ext.refl _).drew
  refine held_take (i := 0) (d := some 9) (v := ?_) (by kernel_rfl) (by kernel_rfl) (by kernel_rfl) (by kernel_rfl) (fun _ _ _ h => h) (fun o ho => ?_) hHeld ?_
  rotate_left
  · simp only [List.getElem?_toArray, List.getElem?_cons_zero, Option.some.injEq] at ho
    subst ho
    refine ⟨by rfl, fun w hSw => ?_⟩
    (try dsimp only at hSw)
    go_simp
    try with_reducible rfl
  try simp only [Act.put, List.setIfInBounds_toArray, List.set_cons_zero, List.set_cons_succ]
  refine wpAnyH_ready (rs := [1]) (by kernel_rfl) (by simp) ?_
  refine held_step (i := 1) (by kernel_rfl) (fun o ho K' hK => ?_) ?_
  · simp only [List.getElem?_toArray, List.getElem?_cons_zero, List.getElem?_cons_succ, Option.some.injEq] at ho
    subst ho
    go_simp
    go_at_call 19; refine (HSH.out _ (by first | exact (Ext.refl _).drew)).mono ?_; rintro e w1 ⟨rfl, hx1⟩; have hy1 := Ext.trans ((Ext.refl (w.alloc (boxC c la fa lk fk))).drew) hx1
    try go_wp2_with fail
    refine hK.out _ _ ?_ (fun hHeld => ?_)
    · (first | go_keep | exact HB.out _ (by first | exact hy15 | exact hy14 | exact hy13 | exact hy12 | exact hy11 | exact hy10 | exact hy9 | exact hy8 | exact hy7 | exact hy6 | exact hy5 | exact hy4 | exact hy3 | exact hy2 | exact hy1 | exact (Ext.refl _).drew))
    clear hK K'
    try simp only [List.setIfInBounds_toArray, List.set_cons_zero, List.set_cons_succ]
    refine held_take (i := 2) (d := some 11) (v := ?_) (by kernel_rfl) (by kernel_rfl) (by kernel_rfl) (by kernel_rfl) (fun _ _ _ h => h) (fun o ho => ?_) hHeld ?_
    rotate_left
    · simp only [List.getElem?_toArray, List.getElem?_cons_zero, List.getElem?_cons_succ, Option.some.injEq] at ho
      subst ho
      refine ⟨by rfl, fun w hSw => ?_⟩
      (try dsimp only at hSw)
      go_simp
      try with_reducible rfl
    try simp only [Act.put, List.setIfInBounds_toArray, List.set_cons_zero, List.set_cons_succ]
    refine held_take (i := 3) (d := some 12) (v := ?_) (by kernel_rfl) (by kernel_rfl) (by kernel_rfl) (by kernel_rfl) (fun _ _ _ h => h) (fun o ho => ?_) hHeld ?_
    rotate_left
    · simp only [List.getElem?_toArray, List.getElem?_cons_zero, List.getElem?_cons_succ, Option.some.injEq] at ho
      subst ho
      refine ⟨by rfl, fun w hSw => ?_⟩
      (try dsimp only at hSw)
      go_simp
      try with_reducible rfl
    try simp only [Act.put, List.setIfInBounds_toArray, List.set_cons_zero, List.set_cons_succ]
    refine held_take (i := 4) (d := some 13) (v := ?_) (by kernel_rfl) (by kernel_rfl) (by kernel_rfl) (by kernel_rfl) (fun _ _ _ h => h) (fun o ho => ?_) hHeld ?_
    rotate_left
    · simp only [List.getElem?_toArray, List.getElem?_cons_zero, List.getElem?_cons_succ, Option.some.injEq] at ho
      subst ho
      refine ⟨by rfl, fun w hSw => ?_⟩
      (try dsimp only at hSw)
      go_simp
      try with_reducible rfl
    try simp only [Act.put, List.setIfInBounds_toArray, List.set_cons_zero, List.set_cons_succ]
    refine held_take (i := 5) (d := some 14) (v := ?_) (by kernel_rfl) (by kernel_rfl) (by kernel_rfl) (by kernel_rfl) (fun _ _ _ h => h) (fun o ho => ?_) hHeld ?_
    rotate_left
    · simp only [List.getElem?_toArray, List.getElem?_cons_zero, List.getElem?_cons_succ, Option.some.injEq] at ho
      subst ho
      refine ⟨by rfl, fun w hSw => ?_⟩
      (try dsimp only at hSw)
      go_simp
      try with_reducible rfl
    try simp only [Act.put, List.setIfInBounds_toArray, List.set_cons_zero, List.set_cons_succ]
    refine held_take (i := 6) (d := some 15) (v := ?_) (by kernel_rfl) (by kernel_rfl) (by kernel_rfl) (by kernel_rfl) (fun _ _ _ h => h) (fun o ho => ?_) hHeld ?_
    rotate_left
    · simp only [List.getElem?_toArray, List.getElem?_cons_zero, List.getElem?_cons_succ, Option.some.injEq] at ho
      subst ho
      refine ⟨by rfl, fun w hSw => ?_⟩
      (try dsimp only at hSw)
      go_simp
      try with_reducible rfl
    try simp only [Act.put, List.setIfInBounds_toArray, List.set_cons_zero, List.set_cons_succ]
    refine held_take (i := 7) (d := some 16) (v := ?_) (by kernel_rfl) (by kernel_rfl) (by kernel_rfl) (by kernel_rfl) (fun _ _ _ h => h) (fun o ho => ?_) hHeld ?_
    rotate_left
    · simp only [List.getElem?_toArray, List.getElem?_cons_zero, List.getElem?_cons_succ, Option.some.injEq] at ho
      subst ho
      refine ⟨by rfl, fun w hSw => ?_⟩
      (try dsimp only at hSw)
      go_simp
      try with_reducible rfl
    try simp only [Act.put, List.setIfInBounds_toArray, List.set_cons_zero, List.set_cons_succ]
    refine held_take (i := 8) (d := some 17) (v := ?_) (by kernel_rfl) (by kernel_rfl) (by kernel_rfl) (by kernel_rfl) (fun _ _ _ h => h) (fun o ho => ?_) hHeld ?_
    rotate_left
    · simp only [List.getElem?_toArray, List.getElem?_cons_zero, List.getElem?_cons_succ, Option.some.injEq] at ho
      subst ho
      refine ⟨by rfl, fun w hSw => ?_⟩
      (try dsimp only at hSw)
      go_simp
      try with_reducible rfl
    try simp only [Act.put, List.setIfInBounds_toArray, List.set_cons_zero, List.set_cons_succ]
    refine held_take (i := 9) (d := some 18) (v := ?_) (by kernel_rfl) (by kernel_rfl) (by kernel_rfl) (by kernel_rfl) (fun _ _ _ h => h) (fun o ho => ?_) hHeld ?_
    rotate_left
    · simp only [List.getElem?_toArray, List.getElem?_cons_zero, List.getElem?_cons_succ, Option.some.injEq] at ho
      subst ho
      refine ⟨by rfl, fun w hSw => ?_⟩
      (try dsimp only at hSw)
      go_simp
      try with_reducible rfl
    try simp only [Act.put, List.setIfInBounds_toArray, List.set_cons_zero, List.set_cons_succ]
    refine wpAnyH_ready (rs := [10]) (by kernel_rfl) (by simp) ?_
    refine held_step (i := 10) (by kernel_rfl) (fun o ho K' hK => ?_) ?_
    · simp only [List.getElem?_toArray, List.getElem?_cons_zero, List.getElem?_cons_succ, Option.some.injEq] at ho
      subst ho
      go_simp
      go_at_call 21; refine (HRR.out _ (by first | exact hy1)).mono ?_; rintro e w2 ⟨rfl, hx2⟩; have hy2 := Ext.trans (hy1) hx2
      try go_wp2_with fail
      refine hK.out _ _ ?_ (fun hHeld => ?_)
      · (first | go_keep | exact HB.out _ (by first | exact hy15 | exact hy14 | exact hy13 | exact hy12 | exact hy11 | exact hy10 | exact hy9 | exact hy8 | exact hy7 | exact hy6 | exact hy5 | exact hy4 | exact hy3 | exact hy2 | exact hy1 | exact (Ext.refl _).drew))
      clear hK K'
      try simp only [List.setIfInBounds_toArray, List.set_cons_zero, List.set_cons_succ]
      refine held_take (i := 11) (d := some 20) (v := ?_) (by kernel_rfl) (by kernel_rfl) (by kernel_rfl) (by kernel_rfl) (fun _ _ _ h => h) (fun o ho => ?_) hHeld ?_
      rotate_left
      · simp only [List.getElem?_toArray, List.getElem?_cons_zero, List.getElem?_cons_succ, Option.some.injEq] at ho
        subst ho
        refine ⟨by rfl, fun w hSw => ?_⟩
        (try dsimp only at hSw)
        go_simp
        try with_reducible rfl
      try simp only [Act.put, List.setIfInBounds_toArray, List.set_cons_zero, List.set_cons_succ]
      refine held_take (i := 12) (d := some 21) (v := ?_) (by kernel_rfl) (by kernel_rfl) (by kernel_rfl) (by kernel_rfl) (fun _ _ _ h => h) (fun o ho => ?_) hHeld ?_
      rotate_left
      · simp only [List.getElem?_toArray, List.getElem?_cons_zero, List.getElem?_cons_succ, Option.some.injEq] at ho
        subst ho
        refine ⟨by rfl, fun w hSw => ?_⟩
        (try dsimp only at hSw)
        go_simp
        try with_reducible rfl
      try simp only [Act.put, List.setIfInBounds_toArray, List.set_cons_zero, List.set_cons_succ]
      refine held_take (i := 13) (d := some 22) (v := ?_) (by kernel_rfl) (by kernel_rfl) (by kernel_rfl) (by kernel_rfl) (fun _ _ _ h => h) (fun o ho => ?_) hHeld ?_
      rotate_left
      · simp only [List.getElem?_toArray, List.getElem?_cons_zero, List.getElem?_cons_succ, Option.some.injEq] at ho
        subst ho
        refine ⟨by rfl, fun w hSw => ?_⟩
        (try dsimp only at hSw)
        go_simp
        try with_reducible rfl
      try simp only [Act.put, List.setIfInBounds_toArray, List.set_cons_zero, List.set_cons_succ]
      refine held_skips (is := [14, 15, 16]) (k := 3) (l' := #[true, true, true, true, true, true, true, true, true, true, true, true, true, true, true, true, true, false, false, false, false, false, false, false, false, false, false, false, false, false, false, false, false, false, false, false, false, false]) (by kernel_rfl) rfl (by assumption) ?_
      refine held_take (i := 17) (d := some 26) (v := ?_) (by kernel_rfl) (by kernel_rfl) (by kernel_rfl) (by kernel_rfl) (fun _ _ _ h => h) (fun o ho => ?_) hHeld ?_
      rotate_left
      · simp only [List.getElem?_toArray, List.getElem?_cons_zero, List.getElem?_cons_succ, Option.some.injEq] at ho
        subst ho
        refine ⟨by rfl, fun w hSw => ?_⟩
        (try dsimp only at hSw)
        go_simp
        try with_reducible rfl
      try simp only [Act.put, List.setIfInBounds_toArray, List.set_cons_zero, List.set_cons_succ]
      refine held_take (i := 18) (d := some 27) (v := ?_) (by kernel_rfl) (by kernel_rfl) (by kernel_rfl) (by kernel_rfl) (fun _ _ _ h => h) (fun o ho => ?_) hHeld ?_
      rotate_left
      · simp only [List.getElem?_toArray, List.getElem?_cons_zero, List.getElem?_cons_succ, Option.some.injEq] at ho
        subst ho
        refine ⟨by rfl, fun w hSw => ?_⟩
        (try dsimp only at hSw)
        go_simp
        try with_reducible rfl
      try simp only [Act.put, List.setIfInBounds_toArray, List.set_cons_zero, List.set_cons_succ]
      refine held_skips (is := [19, 20, 21, 22]) (k := 4) (l' := #[true, true, true, true, true, true, true, true, true, true, true, true, true, true, true, true, true, true, true, true, true, true, true, false, false, false, false, false, false, false, false, false, false, false, false, false, false, false]) (by kernel_rfl) rfl (by assumption) ?_
      refine held_take (i := 23) (d := some 32) (v := ?_) (by kernel_rfl) (by kernel_rfl) (by kernel_rfl) (by kernel_rfl) (fun _ _ _ h => h) (fun o ho => ?_) hHeld ?_
      rotate_left
      · simp only [List.getElem?_toArray, List.getElem?_cons_zero, List.getElem?_cons_succ, Option.some.injEq] at ho
        subst ho
        refine ⟨by rfl, fun w hSw => ?_⟩
        (try dsimp only at hSw)
        go_simp
        try with_reducible rfl
      try simp only [Act.put, List.setIfInBounds_toArray, List.set_cons_zero, List.set_cons_succ]
      refine held_take (i := 24) (d := some 33) (v := ?_) (by kernel_rfl) (by kernel_rfl) (by kernel_rfl) (by kernel_rfl) (fun _ _ _ h => h) (fun o ho => ?_) hHeld ?_
      rotate_left
      · simp only [List.getElem?_toArray, List.getElem?_cons_zero, List.getElem?_cons_succ, Option.some.injEq] at ho
        subst ho
        refine ⟨by rfl, fun w hSw => ?_⟩
        (try dsimp only at hSw)
        go_simp
        try with_reducible rfl
      try simp only [Act.put, List.setIfInBounds_toArray, List.set_cons_zero, List.set_cons_succ]
      refine held_skips (is := [25, 26, 27, 28]) (k := 4) (l' := #[true, true, true, true, true, true, true, true, true, true, true, true, true, true, true, true, true, true, true, true, true, true, true, true, true, true, true, true, true, false, false, false, false, false, false, false, false, false]) (by kernel_rfl) rfl (by assumption) ?_
      refine held_take (i := 29) (d := some 38) (v := ?_) (by kernel_rfl) (by kernel_rfl) (by kernel_rfl) (by kernel_rfl) (fun _ _ _ h => h) (fun o ho => ?_) hHeld ?_
      rotate_left
      · simp only [List.getElem?_toArray, List.getElem?_cons_zero, List.getElem?_cons_succ, Option.some.injEq] at ho
        subst ho
        refine ⟨by rfl, fun w hSw => ?_⟩
        (try dsimp only at hSw)
        go_simp
        try with_reducible rfl
      try simp only [Act.put, List.setIfInBounds_toArray, List.set_cons_zero, List.set_cons_succ]
      refine held_take (i := 30) (d := some 39) (v := ?_) (by kernel_rfl) (by kernel_rfl) (by kernel_rfl) (by kernel_rfl) (fun _ _ _ h => h) (fun o ho => ?_) hHeld ?_
      rotate_left
      · simp only [List.getElem?_toArray, List.getElem?_cons_zero, List.getElem?_cons_succ, Option.some.injEq] at ho
        subst ho
        refine ⟨by rfl, fun w hSw => ?_⟩
        (try dsimp only at hSw)
        go_simp
        try with_reducible rfl
      try simp only [Act.put, List.setIfInBounds_toArray, List.set_cons_zero, List.set_cons_succ]
      refine held_skips (is := [31, 32, 33, 34, 35, 36]) (k := 6) (l' := #[true, true, true, true, true, true, true, true, true, true, true, true, true, true, true, true, true, true, true, true, true, true, true, true, true, true, true, true, true, true, true, true, true, true, true, true, true, false]) (by kernel_rfl) rfl (by assumption) ?_
      refine held_take (i := 37) (d := some 46) (v := ?_) (by kernel_rfl) (by kernel_rfl) (by kernel_rfl) (by kernel_rfl) (fun _ _ _ h => h) (fun o ho => ?_) hHeld ?_
      rotate_left
      · simp only [List.getElem?_toArray, List.getElem?_cons_zero, List.getElem?_cons_succ, Option.some.injEq] at ho
        subst ho
        refine ⟨by rfl, fun w hSw => ?_⟩
        (try dsimp only at hSw)
        go_simp
        try with_reducible rfl
      try simp only [Act.put, List.setIfInBounds_toArray, List.set_cons_zero, List.set_cons_succ]
      refine wpAnyH_done (by kernel_rfl) ?_ _
      try simp only [List.setIfInBounds_toArray, List.set_cons_zero, List.set_cons_succ]
      go_wp2_with (go_at_call 11; refine (HL.out _ hy2).mono ?_; rintro e wk ⟨rfl, hxk⟩)
      go_ret
      exact ⟨rfl, (HX0.out.trans hy2).trans hxk⟩
    exact AllReadyH.nil
  exact AllReadyH.nil

set_option maxRecDepth 100000 in
set_option maxHeartbeats 16000000 in
theorem short_e3 (v : Value) (c : Roads) (hv : Value) (hs : List Int) (w : World) (hR : RoadsAt w v c) (hH : IntsAt w hv hs) (ht : TabOk w)
    (hsh : shortB c = true) (hlong : hs.length ≤ 7) (hr : isRoadsB c = true) (h0 : hs.length = 0) : Calls Tryz.prog 5 #[v, hv] w (TrueP w) := by
  have hR' := hR
  have hH' := hH
  obtain ⟨lv, fv, rfl, hll, hff⟩ := hR
  obtain ⟨la, lk, rfl, l1, l2, _⟩ := hll.open
  obtain ⟨fa, fk, rfl, f1, f2, _⟩ := hff.open
  obtain ⟨ha, hk, rfl, k1, k2, _⟩ := hH.open
  have hx0 : Ext w (w.alloc (boxC c la fa lk fk)) := (Ext.refl w).alloc _
  have HX0 := Lib.hid hx0
  have HSH := Lib.hid (fun w1 (hx : Ext (w.alloc (boxC c la fa lk fk)) w1) => short_any _ c w1 (hR'.ext (hx0.trans hx)))
  have HRR0 := Lib.hid (fun (h0 : c.loads.length ≤ 1000) w1 (hx : Ext (w.alloc (boxC c la fa lk fk)) w1) => rroads_any _ c w1 (hR'.ext (hx0.trans hx)) h0)
  have HSO := Lib.hid (fun w1 (hx : Ext (w.alloc (boxC c la fa lk fk)) w1) => rsome_any _ _ c hs w1 (hR'.ext (hx0.trans hx)) (hH'.ext (hx0.trans hx)))
  have HSR0 := Lib.hid (fun (h0 : hs.length ≤ 1000) w1 (hx : Ext (w.alloc (boxC c la fa lk fk)) w1) => sort_any _ hs w1 (hH'.ext (hx0.trans hx)) h0)
  have HRI := Lib.hid (fun w1 (hx : Ext (w.alloc (boxC c la fa lk fk)) w1) u (hu : IntsAt w1 u (srt hs)) => rrising_any u (srt hs) w1 hu)
  have HLO0 := Lib.hid (fun (hb : RoadsB c) hst (h0 : hs.length ≤ 1000) w1 (hx : Ext (w.alloc (boxC c la fa lk fk)) w1) => rload_any _ _ c hs w1 hb (hR'.ext (hx0.trans hx)) (hH'.ext (hx0.trans hx)) hst h0)
  have HL := Lib.hid (fun w1 (hx : Ext (w.alloc (boxC c la fa lk fk)) w1) => lknown_any w1 (ht.ext (hx0.trans hx)))
  have HB := Lib.hid (fun W (h : Ext (w.alloc (boxC c la fa lk fk)) W) => boxC_cells ((h.block (by simp)).trans (World.alloc_heap_new w (boxC c la fa lk fk))))
  have hmix : Tryz.prog.follows .mixedOrders = true := by kernel_rfl
  rw [hsh] at HSH
  have hL7 : c.loads.length ≤ 7 := by
    unfold shortB at hsh
    simp only [Bool.and_eq_true, decide_eq_true_eq] at hsh
    omega
  have HRR := Lib.hid (HRR0.out (by omega))
  have x1 : decide ((7 : Int) < (hs.length : Int)) = false := by simp; omega
  have h7 := hlong
  have HSR := Lib.hid (HSR0.out (by omega))
  rw [hr] at HRR
  have y1 : ((hs.length : Int) == 0) = true := by rw [beq_iff_eq]; omega
  have y2 : (hs.length == 0) = true := by rw [beq_iff_eq]; exact h0
  clear hR' hH' hll hff hH hx0 ht
  clear hsh HRR0 HLO0 hlong hr HSR0 h0
  go_enter Tryz.func5, Tryz.ntmps5
  go_upto_region 1 with fail
  refine wp_region_held_drew (S := (fun w' => w'.cell? ⟨w.heap.size, 0, none⟩ = some (.slice la c.loads.length lk) ∧ w'.cell? ⟨w.heap.size, 1, none⟩ = some (.int .i64 c.bears) ∧ w'.cell? ⟨w.heap.size, 2, none⟩ = some (.slice fa c.far.length fk))) (by kernel_rfl) ?_ (fun hHeld => ?_)
  · exact HB.out _ (Ext.refl _).drew
  refine held_take (i := 0) (d := some 9) (v := ?_) (by kernel_rfl) (by kernel_rfl) (by kernel_rfl) (by kernel_rfl) (fun _ _ _ h => h) (fun o ho => ?_) hHeld ?_
  rotate_left
  · simp only [List.getElem?_toArray, List.getElem?_cons_zero, Option.some.injEq] at ho
    subst ho
    refine ⟨by rfl, fun w hSw => ?_⟩
    (try dsimp only at hSw)
    go_simp
    try with_reducible rfl
  try simp only [Act.put, List.setIfInBounds_toArray, List.set_cons_zero, List.set_cons_succ]
  refine wpAnyH_ready (rs := [1]) (by kernel_rfl) (by simp) ?_
  refine held_step (i := 1) (by kernel_rfl) (fun o ho K' hK => ?_) ?_
  · simp only [List.getElem?_toArray, List.getElem?_cons_zero, List.getElem?_cons_succ, Option.some.injEq] at ho
    subst ho
    go_simp
    go_at_call 19; refine (HSH.out _ (by first | exact (Ext.refl _).drew)).mono ?_; rintro e w1 ⟨rfl, hx1⟩; have hy1 := Ext.trans ((Ext.refl (w.alloc (boxC c la fa lk fk))).drew) hx1
    try go_wp2_with fail
    refine hK.out _ _ ?_ (fun hHeld => ?_)
    · (first | go_keep | exact HB.out _ (by first | exact hy15 | exact hy14 | exact hy13 | exact hy12 | exact hy11 | exact hy10 | exact hy9 | exact hy8 | exact hy7 | exact hy6 | exact hy5 | exact hy4 | exact hy3 | exact hy2 | exact hy1 | exact (Ext.refl _).drew))
    clear hK K'
    try simp only [List.setIfInBounds_toArray, List.set_cons_zero, List.set_cons_succ]
    refine held_take (i := 2) (d := some 11) (v := ?_) (by kernel_rfl) (by kernel_rfl) (by kernel_rfl) (by kernel_rfl) (fun _ _ _ h => h) (fun o ho => ?_) hHeld ?_
    rotate_left
    · simp only [List.getElem?_toArray, List.getElem?_cons_zero, List.getElem?_cons_succ, Option.some.injEq] at ho
      subst ho
      refine ⟨by rfl, fun w hSw => ?_⟩
      (try dsimp only at hSw)
      go_simp
      try with_reducible rfl
    try simp only [Act.put, List.setIfInBounds_toArray, List.set_cons_zero, List.set_cons_succ]
    refine held_take (i := 3) (d := some 12) (v := ?_) (by kernel_rfl) (by kernel_rfl) (by kernel_rfl) (by kernel_rfl) (fun _ _ _ h => h) (fun o ho => ?_) hHeld ?_
    rotate_left
    · simp only [List.getElem?_toArray, List.getElem?_cons_zero, List.getElem?_cons_succ, Option.some.injEq] at ho
      subst ho
      refine ⟨by rfl, fun w hSw => ?_⟩
      (try dsimp only at hSw)
      go_simp
      try with_reducible rfl
    try simp only [Act.put, List.setIfInBounds_toArray, List.set_cons_zero, List.set_cons_succ]
    refine held_take (i := 4) (d := some 13) (v := ?_) (by kernel_rfl) (by kernel_rfl) (by kernel_rfl) (by kernel_rfl) (fun _ _ _ h => h) (fun o ho => ?_) hHeld ?_
    rotate_left
    · simp only [List.getElem?_toArray, List.getElem?_cons_zero, List.getElem?_cons_succ, Option.some.injEq] at ho
      subst ho
      refine ⟨by rfl, fun w hSw => ?_⟩
      (try dsimp only at hSw)
      go_simp
      try with_reducible rfl
    try simp only [Act.put, List.setIfInBounds_toArray, List.set_cons_zero, List.set_cons_succ]
    refine held_take (i := 5) (d := some 14) (v := ?_) (by kernel_rfl) (by kernel_rfl) (by kernel_rfl) (by kernel_rfl) (fun _ _ _ h => h) (fun o ho => ?_) hHeld ?_
    rotate_left
    · simp only [List.getElem?_toArray, List.getElem?_cons_zero, List.getElem?_cons_succ, Option.some.injEq] at ho
      subst ho
      refine ⟨by rfl, fun w hSw => ?_⟩
      (try dsimp only at hSw)
      go_simp
      try with_reducible rfl
    try simp only [Act.put, List.setIfInBounds_toArray, List.set_cons_zero, List.set_cons_succ]
    refine held_take (i := 6) (d := some 15) (v := ?_) (by kernel_rfl) (by kernel_rfl) (by kernel_rfl) (by kernel_rfl) (fun _ _ _ h => h) (fun o ho => ?_) hHeld ?_
    rotate_left
    · simp only [List.getElem?_toArray, List.getElem?_cons_zero, List.getElem?_cons_succ, Option.some.injEq] at ho
      subst ho
      refine ⟨by rfl, fun w hSw => ?_⟩
      (try dsimp only at hSw)
      go_simp
      try with_reducible rfl
    try simp only [Act.put, List.setIfInBounds_toArray, List.set_cons_zero, List.set_cons_succ]
    refine held_take (i := 7) (d := some 16) (v := ?_) (by kernel_rfl) (by kernel_rfl) (by kernel_rfl) (by kernel_rfl) (fun _ _ _ h => h) (fun o ho => ?_) hHeld ?_
    rotate_left
    · simp only [List.getElem?_toArray, List.getElem?_cons_zero, List.getElem?_cons_succ, Option.some.injEq] at ho
      subst ho
      refine ⟨by rfl, fun w hSw => ?_⟩
      (try dsimp only at hSw)
      go_simp
      try with_reducible rfl
    try simp only [Act.put, List.setIfInBounds_toArray, List.set_cons_zero, List.set_cons_succ]
    refine held_take (i := 8) (d := some 17) (v := ?_) (by kernel_rfl) (by kernel_rfl) (by kernel_rfl) (by kernel_rfl) (fun _ _ _ h => h) (fun o ho => ?_) hHeld ?_
    rotate_left
    · simp only [List.getElem?_toArray, List.getElem?_cons_zero, List.getElem?_cons_succ, Option.some.injEq] at ho
      subst ho
      refine ⟨by rfl, fun w hSw => ?_⟩
      (try dsimp only at hSw)
      go_simp
      try with_reducible rfl
    try simp only [Act.put, List.setIfInBounds_toArray, List.set_cons_zero, List.set_cons_succ]
    refine held_take (i := 9) (d := some 18) (v := ?_) (by kernel_rfl) (by kernel_rfl) (by kernel_rfl) (by kernel_rfl) (fun _ _ _ h => h) (fun o ho => ?_) hHeld ?_
    rotate_left
    · simp only [List.getElem?_toArray, List.getElem?_cons_zero, List.getElem?_cons_succ, Option.some.injEq] at ho
      subst ho
      refine ⟨by rfl, fun w hSw => ?_⟩
      (try dsimp only at hSw)
      go_simp
      try with_reducible rfl
    try simp only [Act.put, List.setIfInBounds_toArray, List.set_cons_zero, List.set_cons_succ]
    refine wpAnyH_ready (rs := [10]) (by kernel_rfl) (by simp) ?_
    refine held_step (i := 10) (by kernel_rfl) (fun o ho K' hK => ?_) ?_
    · simp only [List.getElem?_toArray, List.getElem?_cons_zero, List.getElem?_cons_succ, Option.some.injEq] at ho
      subst ho
      go_simp
      go_at_call 21; refine (HRR.out _ (by first | exact hy1)).mono ?_; rintro e w2 ⟨rfl, hx2⟩; have hy2 := Ext.trans (hy1) hx2
      try go_wp2_with fail
      refine hK.out _ _ ?_ (fun hHeld => ?_)
      · (first | go_keep | exact HB.out _ (by first | exact hy15 | exact hy14 | exact hy13 | exact hy12 | exact hy11 | exact hy10 | exact hy9 | exact hy8 | exact hy7 | exact hy6 | exact hy5 | exact hy4 | exact hy3 | exact hy2 | exact hy1 | exact (Ext.refl _).drew))
      clear hK K'
      try simp only [List.setIfInBounds_toArray, List.set_cons_zero, List.set_cons_succ]
      refine held_take (i := 11) (d := some 20) (v := ?_) (by kernel_rfl) (by kernel_rfl) (by kernel_rfl) (by kernel_rfl) (fun _ _ _ h => h) (fun o ho => ?_) hHeld ?_
      rotate_left
      · simp only [List.getElem?_toArray, List.getElem?_cons_zero, List.getElem?_cons_succ, Option.some.injEq] at ho
        subst ho
        refine ⟨by rfl, fun w hSw => ?_⟩
        (try dsimp only at hSw)
        go_simp
        try with_reducible rfl
      try simp only [Act.put, List.setIfInBounds_toArray, List.set_cons_zero, List.set_cons_succ]
      refine held_take (i := 12) (d := some 21) (v := ?_) (by kernel_rfl) (by kernel_rfl) (by kernel_rfl) (by kernel_rfl) (fun _ _ _ h => h) (fun o ho => ?_) hHeld ?_
      rotate_left
      · simp only [List.getElem?_toArray, List.getElem?_cons_zero, List.getElem?_cons_succ, Option.some.injEq] at ho
        subst ho
        refine ⟨by rfl, fun w hSw => ?_⟩
        (try dsimp only at hSw)
        go_simp
        try with_reducible rfl
      try simp only [Act.put, List.setIfInBounds_toArray, List.set_cons_zero, List.set_cons_succ]
      refine held_take (i := 13) (d := some 22) (v := ?_) (by kernel_rfl) (by kernel_rfl) (by kernel_rfl) (by kernel_rfl) (fun _ _ _ h => h) (fun o ho => ?_) hHeld ?_
      rotate_left
      · simp only [List.getElem?_toArray, List.getElem?_cons_zero, List.getElem?_cons_succ, Option.some.injEq] at ho
        subst ho
        refine ⟨by rfl, fun w hSw => ?_⟩
        (try dsimp only at hSw)
        go_simp
        try with_reducible rfl
      try simp only [Act.put, List.setIfInBounds_toArray, List.set_cons_zero, List.set_cons_succ]
      refine held_take (i := 14) (d := some 23) (v := ?_) (by kernel_rfl) (by kernel_rfl) (by kernel_rfl) (by kernel_rfl) (fun _ _ _ h => h) (fun o ho => ?_) hHeld ?_
      rotate_left
      · simp only [List.getElem?_toArray, List.getElem?_cons_zero, List.getElem?_cons_succ, Option.some.injEq] at ho
        subst ho
        refine ⟨by rfl, fun w hSw => ?_⟩
        (try dsimp only at hSw)
        go_simp
        try with_reducible rfl
      try simp only [Act.put, List.setIfInBounds_toArray, List.set_cons_zero, List.set_cons_succ]
      refine held_take (i := 15) (d := some 24) (v := ?_) (by kernel_rfl) (by kernel_rfl) (by kernel_rfl) (by kernel_rfl) (fun _ _ _ h => h) (fun o ho => ?_) hHeld ?_
      rotate_left
      · simp only [List.getElem?_toArray, List.getElem?_cons_zero, List.getElem?_cons_succ, Option.some.injEq] at ho
        subst ho
        refine ⟨by rfl, fun w hSw => ?_⟩
        (try dsimp only at hSw)
        go_simp
        try with_reducible rfl
      try simp only [Act.put, List.setIfInBounds_toArray, List.set_cons_zero, List.set_cons_succ]
      refine held_take (i := 16) (d := some 25) (v := ?_) (by kernel_rfl) (by kernel_rfl) (by kernel_rfl) (by kernel_rfl) (fun _ _ _ h => h) (fun o ho => ?_) hHeld ?_
      rotate_left
      · simp only [List.getElem?_toArray, List.getElem?_cons_zero, List.getElem?_cons_succ, Option.some.injEq] at ho
        subst ho
        refine ⟨by rfl, fun w hSw => ?_⟩
        (try dsimp only at hSw)
        go_simp
        try with_reducible rfl
      try simp only [Act.put, List.setIfInBounds_toArray, List.set_cons_zero, List.set_cons_succ]
      refine held_take (i := 17) (d := some 26) (v := ?_) (by kernel_rfl) (by kernel_rfl) (by kernel_rfl) (by kernel_rfl) (fun _ _ _ h => h) (fun o ho => ?_) hHeld ?_
      rotate_left
      · simp only [List.getElem?_toArray, List.getElem?_cons_zero, List.getElem?_cons_succ, Option.some.injEq] at ho
        subst ho
        refine ⟨by rfl, fun w hSw => ?_⟩
        (try dsimp only at hSw)
        go_simp
        try with_reducible rfl
      try simp only [Act.put, List.setIfInBounds_toArray, List.set_cons_zero, List.set_cons_succ]
      refine held_take (i := 18) (d := some 27) (v := ?_) (by kernel_rfl) (by kernel_rfl) (by kernel_rfl) (by kernel_rfl) (fun _ _ _ h => h) (fun o ho => ?_) hHeld ?_
      rotate_left
      · simp only [List.getElem?_toArray, List.getElem?_cons_zero, List.getElem?_cons_succ, Option.some.injEq] at ho
        subst ho
        refine ⟨by rfl, fun w hSw => ?_⟩
        (try dsimp only at hSw)
        go_simp
        try with_reducible rfl
      try simp only [Act.put, List.setIfInBounds_toArray, List.set_cons_zero, List.set_cons_succ]
      refine held_skips (is := [19, 20, 21, 22]) (k := 4) (l' := #[true, true, true, true, true, true, true, true, true, true, true, true, true, true, true, true, true, true, true, true, true, true, true, false, false, false, false, false, false, false, false, false, false, false, false, false, false, false]) (by kernel_rfl) rfl (by assumption) ?_
      refine held_take (i := 23) (d := some 32) (v := ?_) (by kernel_rfl) (by kernel_rfl) (by kernel_rfl) (by kernel_rfl) (fun _ _ _ h => h) (fun o ho => ?_) hHeld ?_
      rotate_left
      · simp only [List.getElem?_toArray, List.getElem?_cons_zero, List.getElem?_cons_succ, Option.some.injEq] at ho
        subst ho
        refine ⟨by rfl, fun w hSw => ?_⟩
        (try dsimp only at hSw)
        go_simp
        try with_reducible rfl
      try simp only [Act.put, List.setIfInBounds_toArray, List.set_cons_zero, List.set_cons_succ]
      refine held_take (i := 24) (d := some 33) (v := ?_) (by kernel_rfl) (by kernel_rfl) (by kernel_rfl) (by kernel_rfl) (fun _ _ _ h => h) (fun o ho => ?_) hHeld ?_
      rotate_left
      · simp only [List.getElem?_toArray, List.getElem?_cons_zero, List.getElem?_cons_succ, Option.some.injEq] at ho
        subst ho
        refine ⟨by rfl, fun w hSw => ?_⟩
        (try dsimp only at hSw)
        go_simp
        try with_reducible rfl
      try simp only [Act.put, List.setIfInBounds_toArray, List.set_cons_zero, List.set_cons_succ]
      refine held_skips (is := [25, 26, 27, 28]) (k := 4) (l' := #[true, true, true, true, true, true, true, true, true, true, true, true, true, true, true, true, true, true, true, true, true, true, true, true, true, true, true, true, true, false, false, false, false, false, false, false, false, false]) (by kernel_rfl) rfl (by assumption) ?_
      refine held_take (i := 29) (d := some 38) (v := ?_) (by kernel_rfl) (by kernel_rfl) (by kernel_rfl) (by kernel_rfl) (fun _ _ _ h => h) (fun o ho => ?_) hHeld ?_
      rotate_left
      · simp only [List.getElem?_toArray, List.getElem?_cons_zero, List.getElem?_cons_succ, Option.some.injEq] at ho
        subst ho
        refine ⟨by rfl, fun w hSw => ?_⟩
        (try dsimp only at hSw)
        go_simp
        try with_reducible rfl
      try simp only [Act.put, List.setIfInBounds_toArray, List.set_cons_zero, List.set_cons_succ]
      refine held_take (i := 30) (d := some 39) (v := ?_) (by kernel_rfl) (by kernel_rfl) (by kernel_rfl) (by kernel_rfl) (fun _ _ _ h => h) (fun o ho => ?_) hHeld ?_
      rotate_left
      · simp only [List.getElem?_toArray, List.getElem?_cons_zero, List.getElem?_cons_succ, Option.some.injEq] at ho
        subst ho
        refine ⟨by rfl, fun w hSw => ?_⟩
        (try dsimp only at hSw)
        go_simp
        try with_reducible rfl
      try simp only [Act.put, List.setIfInBounds_toArray, List.set_cons_zero, List.set_cons_succ]
      refine held_skips (is := [31, 32, 33, 34, 35, 36]) (k := 6) (l' := #[true, true, true, true, true, true, true, true, true, true, true, true, true, true, true, true, true, true, true, true, true, true, true, true, true, true, true, true, true, true, true, true, true, true, true, true, true, false]) (by kernel_rfl) rfl (by assumption) ?_
      refine held_take (i := 37) (d := some 46) (v := ?_) (by kernel_rfl) (by kernel_rfl) (by kernel_rfl) (by kernel_rfl) (fun _ _ _ h => h) (fun o ho => ?_) hHeld ?_
      rotate_left
      · simp only [List.getElem?_toArray, List.getElem?_cons_zero, List.getElem?_cons_succ, Option.some.injEq] at ho
        subst ho
        refine ⟨by rfl, fun w hSw => ?_⟩
        (try dsimp only at hSw)
        go_simp
        try with_reducible rfl
      try simp only [Act.put, List.setIfInBounds_toArray, List.set_cons_zero, List.set_cons_succ]
      refine wpAnyH_done (by kernel_rfl) ?_ _
      try simp only [List.setIfInBounds_toArray, List.set_cons_zero, List.set_cons_succ]
      go_wp2_with (go_at_call 11; refine (HL.out _ hy2).mono ?_; rintro e wk ⟨rfl, hxk⟩)
      go_ret
      exact ⟨rfl, (HX0.out.trans hy2).trans hxk⟩
    exact AllReadyH.nil
  exact AllReadyH.nil

set_option maxRecDepth 100000 in
set_option maxHeartbeats 16000000 in
theorem short_e4 (v : Value) (c : Roads) (hv : Value) (hs : List Int) (w : World) (hR : RoadsAt w v c) (hH : IntsAt w hv hs) (ht : TabOk w)
    (hsh : shortB c = true) (hlong : hs.length ≤ 7) (hr : isRoadsB c = true) (h0 : ¬ hs.length = 0) (hso : someB c hs = false) : Calls Tryz.prog 5 #[v, hv] w (TrueP w) := by
  have hR' := hR
  have hH' := hH
  obtain ⟨lv, fv, rfl, hll, hff⟩ := hR
  obtain ⟨la, lk, rfl, l1, l2, _⟩ := hll.open
  obtain ⟨fa, fk, rfl, f1, f2, _⟩ := hff.open
  obtain ⟨ha, hk, rfl, k1, k2, _⟩ := hH.open
  have hx0 : Ext w (w.alloc (boxC c la fa lk fk)) := (Ext.refl w).alloc _
  have HX0 := Lib.hid hx0
  have HSH := Lib.hid (fun w1 (hx : Ext (w.alloc (boxC c la fa lk fk)) w1) => short_any _ c w1 (hR'.ext (hx0.trans hx)))
  have HRR0 := Lib.hid (fun (h0 : c.loads.length ≤ 1000) w1 (hx : Ext (w.alloc (boxC c la fa lk fk)) w1) => rroads_any _ c w1 (hR'.ext (hx0.trans hx)) h0)
  have HSO := Lib.hid (fun w1 (hx : Ext (w.alloc (boxC c la fa lk fk)) w1) => rsome_any _ _ c hs w1 (hR'.ext (hx0.trans hx)) (hH'.ext (hx0.trans hx)))
  have HSR0 := Lib.hid (fun (h0 : hs.length ≤ 1000) w1 (hx : Ext (w.alloc (boxC c la fa lk fk)) w1) => sort_any _ hs w1 (hH'.ext (hx0.trans hx)) h0)
  have HRI := Lib.hid (fun w1 (hx : Ext (w.alloc (boxC c la fa lk fk)) w1) u (hu : IntsAt w1 u (srt hs)) => rrising_any u (srt hs) w1 hu)
  have HLO0 := Lib.hid (fun (hb : RoadsB c) hst (h0 : hs.length ≤ 1000) w1 (hx : Ext (w.alloc (boxC c la fa lk fk)) w1) => rload_any _ _ c hs w1 hb (hR'.ext (hx0.trans hx)) (hH'.ext (hx0.trans hx)) hst h0)
  have HL := Lib.hid (fun w1 (hx : Ext (w.alloc (boxC c la fa lk fk)) w1) => lknown_any w1 (ht.ext (hx0.trans hx)))
  have HB := Lib.hid (fun W (h : Ext (w.alloc (boxC c la fa lk fk)) W) => boxC_cells ((h.block (by simp)).trans (World.alloc_heap_new w (boxC c la fa lk fk))))
  have hmix : Tryz.prog.follows .mixedOrders = true := by kernel_rfl
  rw [hsh] at HSH
  have hL7 : c.loads.length ≤ 7 := by
    unfold shortB at hsh
    simp only [Bool.and_eq_true, decide_eq_true_eq] at hsh
    omega
  have HRR := Lib.hid (HRR0.out (by omega))
  have x1 : decide ((7 : Int) < (hs.length : Int)) = false := by simp; omega
  have h7 := hlong
  have HSR := Lib.hid (HSR0.out (by omega))
  rw [hr] at HRR
  have y1 : ((hs.length : Int) == 0) = false := by rw [beq_eq_false_iff_ne]; omega
  have y2 : (hs.length == 0) = false := by rw [beq_eq_false_iff_ne]; exact h0
  rw [hso] at HSO
  clear hR' hH' hll hff hH hx0 ht
  clear hsh HRR0 HLO0 hlong hr HSR0 h0 hso
  go_enter Tryz.func5, Tryz.ntmps5
  go_upto_region 1 with fail
  refine wp_region_held_drew (S := (fun w' => w'.cell? ⟨w.heap.size, 0, none⟩ = some (.slice la c.loads.length lk) ∧ w'.cell? ⟨w.heap.size, 1, none⟩ = some (.int .i64 c.bears) ∧ w'.cell? ⟨w.heap.size, 2, none⟩ = some (.slice fa c.far.length fk))) (by kernel_rfl) ?_ (fun hHeld => ?_)
  · exact HB.out _ (Ext.refl _).drew
  refine held_take (i := 0) (d := some 9) (v := ?_) (by kernel_rfl) (by kernel_rfl) (by kernel_rfl) (by kernel_rfl) (fun _ _ _ h => h) (fun o ho => ?_) hHeld ?_
  rotate_left
  · simp only [List.getElem?_toArray, List.getElem?_cons_zero, Option.some.injEq] at ho
    subst ho
    refine ⟨by rfl, fun w hSw => ?_⟩
    (try dsimp only at hSw)
    go_simp
    try with_reducible rfl
  try simp only [Act.put, List.setIfInBounds_toArray, List.set_cons_zero, List.set_cons_succ]
  refine wpAnyH_ready (rs := [1]) (by kernel_rfl) (by simp) ?_
  refine held_step (i := 1) (by kernel_rfl) (fun o ho K' hK => ?_) ?_
  · simp only [List.getElem?_toArray, List.getElem?_cons_zero, List.getElem?_cons_succ, Option.some.injEq] at ho
    subst ho
    go_simp
    go_at_call 19; refine (HSH.out _ (by first | exact (Ext.refl _).drew)).mono ?_; rintro e w1 ⟨rfl, hx1⟩; have hy1 := Ext.trans ((Ext.refl (w.alloc (boxC c la fa lk fk))).drew) hx1
    try go_wp2_with fail
    refine hK.out _ _ ?_ (fun hHeld => ?_)
    · (first | go_keep | exact HB.out _ (by first | exact hy15 | exact hy14 | exact hy13 | exact hy12 | exact hy11 | exact hy10 | exact hy9 | exact hy8 | exact hy7 | exact hy6 | exact hy5 | exact hy4 | exact hy3 | exact hy2 | exact hy1 | exact (Ext.refl _).drew))
    clear hK K'
    try simp only [List.setIfInBounds_toArray, List.set_cons_zero, List.set_cons_succ]
    refine held_take (i := 2) (d := some 11) (v := ?_) (by kernel_rfl) (by kernel_rfl) (by kernel_rfl) (by kernel_rfl) (fun _ _ _ h => h) (fun o ho => ?_) hHeld ?_
    rotate_left
    · simp only [List.getElem?_toArray, List.getElem?_cons_zero, List.getElem?_cons_succ, Option.some.injEq] at ho
      subst ho
      refine ⟨by rfl, fun w hSw => ?_⟩
      (try dsimp only at hSw)
      go_simp
      try with_reducible rfl
    try simp only [Act.put, List.setIfInBounds_toArray, List.set_cons_zero, List.set_cons_succ]
    refine held_take (i := 3) (d := some 12) (v := ?_) (by kernel_rfl) (by kernel_rfl) (by kernel_rfl) (by kernel_rfl) (fun _ _ _ h => h) (fun o ho => ?_) hHeld ?_
    rotate_left
    · simp only [List.getElem?_toArray, List.getElem?_cons_zero, List.getElem?_cons_succ, Option.some.injEq] at ho
      subst ho
      refine ⟨by rfl, fun w hSw => ?_⟩
      (try dsimp only at hSw)
      go_simp
      try with_reducible rfl
    try simp only [Act.put, List.setIfInBounds_toArray, List.set_cons_zero, List.set_cons_succ]
    refine held_take (i := 4) (d := some 13) (v := ?_) (by kernel_rfl) (by kernel_rfl) (by kernel_rfl) (by kernel_rfl) (fun _ _ _ h => h) (fun o ho => ?_) hHeld ?_
    rotate_left
    · simp only [List.getElem?_toArray, List.getElem?_cons_zero, List.getElem?_cons_succ, Option.some.injEq] at ho
      subst ho
      refine ⟨by rfl, fun w hSw => ?_⟩
      (try dsimp only at hSw)
      go_simp
      try with_reducible rfl
    try simp only [Act.put, List.setIfInBounds_toArray, List.set_cons_zero, List.set_cons_succ]
    refine held_take (i := 5) (d := some 14) (v := ?_) (by kernel_rfl) (by kernel_rfl) (by kernel_rfl) (by kernel_rfl) (fun _ _ _ h => h) (fun o ho => ?_) hHeld ?_
    rotate_left
    · simp only [List.getElem?_toArray, List.getElem?_cons_zero, List.getElem?_cons_succ, Option.some.injEq] at ho
      subst ho
      refine ⟨by rfl, fun w hSw => ?_⟩
      (try dsimp only at hSw)
      go_simp
      try with_reducible rfl
    try simp only [Act.put, List.setIfInBounds_toArray, List.set_cons_zero, List.set_cons_succ]
    refine held_take (i := 6) (d := some 15) (v := ?_) (by kernel_rfl) (by kernel_rfl) (by kernel_rfl) (by kernel_rfl) (fun _ _ _ h => h) (fun o ho => ?_) hHeld ?_
    rotate_left
    · simp only [List.getElem?_toArray, List.getElem?_cons_zero, List.getElem?_cons_succ, Option.some.injEq] at ho
      subst ho
      refine ⟨by rfl, fun w hSw => ?_⟩
      (try dsimp only at hSw)
      go_simp
      try with_reducible rfl
    try simp only [Act.put, List.setIfInBounds_toArray, List.set_cons_zero, List.set_cons_succ]
    refine held_take (i := 7) (d := some 16) (v := ?_) (by kernel_rfl) (by kernel_rfl) (by kernel_rfl) (by kernel_rfl) (fun _ _ _ h => h) (fun o ho => ?_) hHeld ?_
    rotate_left
    · simp only [List.getElem?_toArray, List.getElem?_cons_zero, List.getElem?_cons_succ, Option.some.injEq] at ho
      subst ho
      refine ⟨by rfl, fun w hSw => ?_⟩
      (try dsimp only at hSw)
      go_simp
      try with_reducible rfl
    try simp only [Act.put, List.setIfInBounds_toArray, List.set_cons_zero, List.set_cons_succ]
    refine held_take (i := 8) (d := some 17) (v := ?_) (by kernel_rfl) (by kernel_rfl) (by kernel_rfl) (by kernel_rfl) (fun _ _ _ h => h) (fun o ho => ?_) hHeld ?_
    rotate_left
    · simp only [List.getElem?_toArray, List.getElem?_cons_zero, List.getElem?_cons_succ, Option.some.injEq] at ho
      subst ho
      refine ⟨by rfl, fun w hSw => ?_⟩
      (try dsimp only at hSw)
      go_simp
      try with_reducible rfl
    try simp only [Act.put, List.setIfInBounds_toArray, List.set_cons_zero, List.set_cons_succ]
    refine held_take (i := 9) (d := some 18) (v := ?_) (by kernel_rfl) (by kernel_rfl) (by kernel_rfl) (by kernel_rfl) (fun _ _ _ h => h) (fun o ho => ?_) hHeld ?_
    rotate_left
    · simp only [List.getElem?_toArray, List.getElem?_cons_zero, List.getElem?_cons_succ, Option.some.injEq] at ho
      subst ho
      refine ⟨by rfl, fun w hSw => ?_⟩
      (try dsimp only at hSw)
      go_simp
      try with_reducible rfl
    try simp only [Act.put, List.setIfInBounds_toArray, List.set_cons_zero, List.set_cons_succ]
    refine wpAnyH_ready (rs := [10]) (by kernel_rfl) (by simp) ?_
    refine held_step (i := 10) (by kernel_rfl) (fun o ho K' hK => ?_) ?_
    · simp only [List.getElem?_toArray, List.getElem?_cons_zero, List.getElem?_cons_succ, Option.some.injEq] at ho
      subst ho
      go_simp
      go_at_call 21; refine (HRR.out _ (by first | exact hy1)).mono ?_; rintro e w2 ⟨rfl, hx2⟩; have hy2 := Ext.trans (hy1) hx2
      try go_wp2_with fail
      refine hK.out _ _ ?_ (fun hHeld => ?_)
      · (first | go_keep | exact HB.out _ (by first | exact hy15 | exact hy14 | exact hy13 | exact hy12 | exact hy11 | exact hy10 | exact hy9 | exact hy8 | exact hy7 | exact hy6 | exact hy5 | exact hy4 | exact hy3 | exact hy2 | exact hy1 | exact (Ext.refl _).drew))
      clear hK K'
      try simp only [List.setIfInBounds_toArray, List.set_cons_zero, List.set_cons_succ]
      refine held_take (i := 11) (d := some 20) (v := ?_) (by kernel_rfl) (by kernel_rfl) (by kernel_rfl) (by kernel_rfl) (fun _ _ _ h => h) (fun o ho => ?_) hHeld ?_
      rotate_left
      · simp only [List.getElem?_toArray, List.getElem?_cons_zero, List.getElem?_cons_succ, Option.some.injEq] at ho
        subst ho
        refine ⟨by rfl, fun w hSw => ?_⟩
        (try dsimp only at hSw)
        go_simp
        try with_reducible rfl
      try simp only [Act.put, List.setIfInBounds_toArray, List.set_cons_zero, List.set_cons_succ]
      refine held_take (i := 12) (d := some 21) (v := ?_) (by kernel_rfl) (by kernel_rfl) (by kernel_rfl) (by kernel_rfl) (fun _ _ _ h => h) (fun o ho => ?_) hHeld ?_
      rotate_left
      · simp only [List.getElem?_toArray, List.getElem?_cons_zero, List.getElem?_cons_succ, Option.some.injEq] at ho
        subst ho
        refine ⟨by rfl, fun w hSw => ?_⟩
        (try dsimp only at hSw)
        go_simp
        try with_reducible rfl
      try simp only [Act.put, List.setIfInBounds_toArray, List.set_cons_zero, List.set_cons_succ]
      refine held_take (i := 13) (d := some 22) (v := ?_) (by kernel_rfl) (by kernel_rfl) (by kernel_rfl) (by kernel_rfl) (fun _ _ _ h => h) (fun o ho => ?_) hHeld ?_
      rotate_left
      · simp only [List.getElem?_toArray, List.getElem?_cons_zero, List.getElem?_cons_succ, Option.some.injEq] at ho
        subst ho
        refine ⟨by rfl, fun w hSw => ?_⟩
        (try dsimp only at hSw)
        go_simp
        try with_reducible rfl
      try simp only [Act.put, List.setIfInBounds_toArray, List.set_cons_zero, List.set_cons_succ]
      refine held_take (i := 14) (d := some 23) (v := ?_) (by kernel_rfl) (by kernel_rfl) (by kernel_rfl) (by kernel_rfl) (fun _ _ _ h => h) (fun o ho => ?_) hHeld ?_
      rotate_left
      · simp only [List.getElem?_toArray, List.getElem?_cons_zero, List.getElem?_cons_succ, Option.some.injEq] at ho
        subst ho
        refine ⟨by rfl, fun w hSw => ?_⟩
        (try dsimp only at hSw)
        go_simp
        try with_reducible rfl
      try simp only [Act.put, List.setIfInBounds_toArray, List.set_cons_zero, List.set_cons_succ]
      refine held_take (i := 15) (d := some 24) (v := ?_) (by kernel_rfl) (by kernel_rfl) (by kernel_rfl) (by kernel_rfl) (fun _ _ _ h => h) (fun o ho => ?_) hHeld ?_
      rotate_left
      · simp only [List.getElem?_toArray, List.getElem?_cons_zero, List.getElem?_cons_succ, Option.some.injEq] at ho
        subst ho
        refine ⟨by rfl, fun w hSw => ?_⟩
        (try dsimp only at hSw)
        go_simp
        try with_reducible rfl
      try simp only [Act.put, List.setIfInBounds_toArray, List.set_cons_zero, List.set_cons_succ]
      refine held_take (i := 16) (d := some 25) (v := ?_) (by kernel_rfl) (by kernel_rfl) (by kernel_rfl) (by kernel_rfl) (fun _ _ _ h => h) (fun o ho => ?_) hHeld ?_
      rotate_left
      · simp only [List.getElem?_toArray, List.getElem?_cons_zero, List.getElem?_cons_succ, Option.some.injEq] at ho
        subst ho
        refine ⟨by rfl, fun w hSw => ?_⟩
        (try dsimp only at hSw)
        go_simp
        try with_reducible rfl
      try simp only [Act.put, List.setIfInBounds_toArray, List.set_cons_zero, List.set_cons_succ]
      refine held_take (i := 17) (d := some 26) (v := ?_) (by kernel_rfl) (by kernel_rfl) (by kernel_rfl) (by kernel_rfl) (fun _ _ _ h => h) (fun o ho => ?_) hHeld ?_
      rotate_left
      · simp only [List.getElem?_toArray, List.getElem?_cons_zero, List.getElem?_cons_succ, Option.some.injEq] at ho
        subst ho
        refine ⟨by rfl, fun w hSw => ?_⟩
        (try dsimp only at hSw)
        go_simp
        try with_reducible rfl
      try simp only [Act.put, List.setIfInBounds_toArray, List.set_cons_zero, List.set_cons_succ]
      refine held_take (i := 18) (d := some 27) (v := ?_) (by kernel_rfl) (by kernel_rfl) (by kernel_rfl) (by kernel_rfl) (fun _ _ _ h => h) (fun o ho => ?_) hHeld ?_
      rotate_left
      · simp only [List.getElem?_toArray, List.getElem?_cons_zero, List.getElem?_cons_succ, Option.some.injEq] at ho
        subst ho
        refine ⟨by rfl, fun w hSw => ?_⟩
        (try dsimp only at hSw)
        go_simp
        try with_reducible rfl
      try simp only [Act.put, List.setIfInBounds_toArray, List.set_cons_zero, List.set_cons_succ]
      refine held_take (i := 19) (d := some 28) (v := ?_) (by kernel_rfl) (by kernel_rfl) (by kernel_rfl) (by kernel_rfl) (fun _ _ _ h => h) (fun o ho => ?_) hHeld ?_
      rotate_left
      · simp only [List.getElem?_toArray, List.getElem?_cons_zero, List.getElem?_cons_succ, Option.some.injEq] at ho
        subst ho
        refine ⟨by rfl, fun w hSw => ?_⟩
        (try dsimp only at hSw)
        go_simp
        try with_reducible rfl
      try simp only [Act.put, List.setIfInBounds_toArray, List.set_cons_zero, List.set_cons_succ]
      refine held_take (i := 20) (d := some 29) (v := ?_) (by kernel_rfl) (by kernel_rfl) (by kernel_rfl) (by kernel_rfl) (fun _ _ _ h => h) (fun o ho => ?_) hHeld ?_
      rotate_left
      · simp only [List.getElem?_toArray, List.getElem?_cons_zero, List.getElem?_cons_succ, Option.some.injEq] at ho
        subst ho
        refine ⟨by rfl, fun w hSw => ?_⟩
        (try dsimp only at hSw)
        go_simp
        try with_reducible rfl
      try simp only [Act.put, List.setIfInBounds_toArray, List.set_cons_zero, List.set_cons_succ]
      refine wpAnyH_ready (rs := [21]) (by kernel_rfl) (by simp) ?_
      refine held_step (i := 21) (by kernel_rfl) (fun o ho K' hK => ?_) ?_
      · simp only [List.getElem?_toArray, List.getElem?_cons_zero, List.getElem?_cons_succ, Option.some.injEq] at ho
        subst ho
        go_simp
        go_at_call 22; refine (HSO.out _ (by first | exact hy2)).mono ?_; rintro e w3 ⟨rfl, hx3⟩; have hy3 := Ext.trans (hy2) hx3
        try go_wp2_with fail
        refine hK.out _ _ ?_ (fun hHeld => ?_)
        · (first | go_keep | exact HB.out _ (by first | exact hy15 | exact hy14 | exact hy13 | exact hy12 | exact hy11 | exact hy10 | exact hy9 | exact hy8 | exact hy7 | exact hy6 | exact hy5 | exact hy4 | exact hy3 | exact hy2 | exact hy1 | exact (Ext.refl _).drew))
        clear hK K'
        try simp only [List.setIfInBounds_toArray, List.set_cons_zero, List.set_cons_succ]
        refine held_take (i := 22) (d := some 31) (v := ?_) (by kernel_rfl) (by kernel_rfl) (by kernel_rfl) (by kernel_rfl) (fun _ _ _ h => h) (fun o ho => ?_) hHeld ?_
        rotate_left
        · simp only [List.getElem?_toArray, List.getElem?_cons_zero, List.getElem?_cons_succ, Option.some.injEq] at ho
          subst ho
          refine ⟨by rfl, fun w hSw => ?_⟩
          (try dsimp only at hSw)
          go_simp
          try with_reducible rfl
        try simp only [Act.put, List.setIfInBounds_toArray, List.set_cons_zero, List.set_cons_succ]
        refine held_take (i := 23) (d := some 32) (v := ?_) (by kernel_rfl) (by kernel_rfl) (by kernel_rfl) (by kernel_rfl) (fun _ _ _ h => h) (fun o ho => ?_) hHeld ?_
        rotate_left
        · simp only [List.getElem?_toArray, List.getElem?_cons_zero, List.getElem?_cons_succ, Option.some.injEq] at ho
          subst ho
          refine ⟨by rfl, fun w hSw => ?_⟩
          (try dsimp only at hSw)
          go_simp
          try with_reducible rfl
        try simp only [Act.put, List.setIfInBounds_toArray, List.set_cons_zero, List.set_cons_succ]
        refine held_take (i := 24) (d := some 33) (v := ?_) (by kernel_rfl) (by kernel_rfl) (by kernel_rfl) (by kernel_rfl) (fun _ _ _ h => h) (fun o ho => ?_) hHeld ?_
        rotate_left
        · simp only [List.getElem?_toArray, List.getElem?_cons_zero, List.getElem?_cons_succ, Option.some.injEq] at ho
          subst ho
          refine ⟨by rfl, fun w hSw => ?_⟩
          (try dsimp only at hSw)
          go_simp
          try with_reducible rfl
        try simp only [Act.put, List.setIfInBounds_toArray, List.set_cons_zero, List.set_cons_succ]
        refine held_skips (is := [25, 26, 27, 28]) (k := 4) (l' := #[true, true, true, true, true, true, true, true, true, true, true, true, true, true, true, true, true, true, true, true, true, true, true, true, true, true, true, true, true, false, false, false, false, false, false, false, false, false]) (by kernel_rfl) rfl (by assumption) ?_
        refine held_take (i := 29) (d := some 38) (v := ?_) (by kernel_rfl) (by kernel_rfl) (by kernel_rfl) (by kernel_rfl) (fun _ _ _ h => h) (fun o ho => ?_) hHeld ?_
        rotate_left
        · simp only [List.getElem?_toArray, List.getElem?_cons_zero, List.getElem?_cons_succ, Option.some.injEq] at ho
          subst ho
          refine ⟨by rfl, fun w hSw => ?_⟩
          (try dsimp only at hSw)
          go_simp
          try with_reducible rfl
        try simp only [Act.put, List.setIfInBounds_toArray, List.set_cons_zero, List.set_cons_succ]
        refine held_take (i := 30) (d := some 39) (v := ?_) (by kernel_rfl) (by kernel_rfl) (by kernel_rfl) (by kernel_rfl) (fun _ _ _ h => h) (fun o ho => ?_) hHeld ?_
        rotate_left
        · simp only [List.getElem?_toArray, List.getElem?_cons_zero, List.getElem?_cons_succ, Option.some.injEq] at ho
          subst ho
          refine ⟨by rfl, fun w hSw => ?_⟩
          (try dsimp only at hSw)
          go_simp
          try with_reducible rfl
        try simp only [Act.put, List.setIfInBounds_toArray, List.set_cons_zero, List.set_cons_succ]
        refine held_skips (is := [31, 32, 33, 34, 35, 36]) (k := 6) (l' := #[true, true, true, true, true, true, true, true, true, true, true, true, true, true, true, true, true, true, true, true, true, true, true, true, true, true, true, true, true, true, true, true, true, true, true, true, true, false]) (by kernel_rfl) rfl (by assumption) ?_
        refine held_take (i := 37) (d := some 46) (v := ?_) (by kernel_rfl) (by kernel_rfl) (by kernel_rfl) (by kernel_rfl) (fun _ _ _ h => h) (fun o ho => ?_) hHeld ?_
        rotate_left
        · simp only [List.getElem?_toArray, List.getElem?_cons_zero, List.getElem?_cons_succ, Option.some.injEq] at ho
          subst ho
          refine ⟨by rfl, fun w hSw => ?_⟩
          (try dsimp only at hSw)
          go_simp
          try with_reducible rfl
        try simp only [Act.put, List.setIfInBounds_toArray, List.set_cons_zero, List.set_cons_succ]
        refine wpAnyH_done (by kernel_rfl) ?_ _
        try simp only [List.setIfInBounds_toArray, List.set_cons_zero, List.set_cons_succ]
        go_wp2_with (go_at_call 11; refine (HL.out _ hy3).mono ?_; rintro e wk ⟨rfl, hxk⟩)
        go_ret
        exact ⟨rfl, (HX0.out.trans hy3).trans hxk⟩
      exact AllReadyH.nil
    exact AllReadyH.nil
  exact AllReadyH.nil

set_option maxRecDepth 100000 in
set_option maxHeartbeats 16000000 in
theorem short_e5 (v : Value) (c : Roads) (hv : Value) (hs : List Int) (w : World) (hR : RoadsAt w v c) (hH : IntsAt w hv hs) (ht : TabOk w)
    (hsh : shortB c = true) (hlong : hs.length ≤ 7) (hr : isRoadsB c = true) (h0 : ¬ hs.length = 0) (hso : someB c hs = true) (hri : risingB (srt hs) = false) : Calls Tryz.prog 5 #[v, hv] w (TrueP w) := by
  have hR' := hR
  have hH' := hH
  obtain ⟨lv, fv, rfl, hll, hff⟩ := hR
  obtain ⟨la, lk, rfl, l1, l2, _⟩ := hll.open
  obtain ⟨fa, fk, rfl, f1, f2, _⟩ := hff.open
  obtain ⟨ha, hk, rfl, k1, k2, _⟩ := hH.open
  have hx0 : Ext w (w.alloc (boxC c la fa lk fk)) := (Ext.refl w).alloc _
  have HX0 := Lib.hid hx0
  have HSH := Lib.hid (fun w1 (hx : Ext (w.alloc (boxC c la fa lk fk)) w1) => short_any _ c w1 (hR'.ext (hx0.trans hx)))
  have HRR0 := Lib.hid (fun (h0 : c.loads.length ≤ 1000) w1 (hx : Ext (w.alloc (boxC c la fa lk fk)) w1) => rroads_any _ c w1 (hR'.ext (hx0.trans hx)) h0)
  have HSO := Lib.hid (fun w1 (hx : Ext (w.alloc (boxC c la fa lk fk)) w1) => rsome_any _ _ c hs w1 (hR'.ext (hx0.trans hx)) (hH'.ext (hx0.trans hx)))
  have HSR0 := Lib.hid (fun (h0 : hs.length ≤ 1000) w1 (hx : Ext (w.alloc (boxC c la fa lk fk)) w1) => sort_any _ hs w1 (hH'.ext (hx0.trans hx)) h0)
  have HRI := Lib.hid (fun w1 (hx : Ext (w.alloc (boxC c la fa lk fk)) w1) u (hu : IntsAt w1 u (srt hs)) => rrising_any u (srt hs) w1 hu)
  have HLO0 := Lib.hid (fun (hb : RoadsB c) hst (h0 : hs.length ≤ 1000) w1 (hx : Ext (w.alloc (boxC c la fa lk fk)) w1) => rload_any _ _ c hs w1 hb (hR'.ext (hx0.trans hx)) (hH'.ext (hx0.trans hx)) hst h0)
  have HL := Lib.hid (fun w1 (hx : Ext (w.alloc (boxC c la fa lk fk)) w1) => lknown_any w1 (ht.ext (hx0.trans hx)))
  have HB := Lib.hid (fun W (h : Ext (w.alloc (boxC c la fa lk fk)) W) => boxC_cells ((h.block (by simp)).trans (World.alloc_heap_new w (boxC c la fa lk fk))))
  have hmix : Tryz.prog.follows .mixedOrders = true := by kernel_rfl
  rw [hsh] at HSH
  have hL7 : c.loads.length ≤ 7 := by
    unfold shortB at hsh
    simp only [Bool.and_eq_true, decide_eq_true_eq] at hsh
    omega
  have HRR := Lib.hid (HRR0.out (by omega))
  have x1 : decide ((7 : Int) < (hs.length : Int)) = false := by simp; omega
  have h7 := hlong
  have HSR := Lib.hid (HSR0.out (by omega))
  rw [hr] at HRR
  have y1 : ((hs.length : Int) == 0) = false := by rw [beq_eq_false_iff_ne]; omega
  have y2 : (hs.length == 0) = false := by rw [beq_eq_false_iff_ne]; exact h0
  rw [hso] at HSO
  rw [hri] at HRI
  clear hR' hH' hll hff hH hx0 ht
  clear hsh HRR0 HLO0 hlong hr HSR0 h0 hso hri
  go_enter Tryz.func5, Tryz.ntmps5
  go_upto_region 1 with fail
  refine wp_region_held_drew (S := (fun w' => w'.cell? ⟨w.heap.size, 0, none⟩ = some (.slice la c.loads.length lk) ∧ w'.cell? ⟨w.heap.size, 1, none⟩ = some (.int .i64 c.bears) ∧ w'.cell? ⟨w.heap.size, 2, none⟩ = some (.slice fa c.far.length fk))) (by kernel_rfl) ?_ (fun hHeld => ?_)
  · exact HB.out _ (Ext.refl _).drew
  refine held_take (i := 0) (d := some 9) (v := ?_) (by kernel_rfl) (by kernel_rfl) (by kernel_rfl) (by kernel_rfl) (fun _ _ _ h => h) (fun o ho => ?_) hHeld ?_
  rotate_left
  · simp only [List.getElem?_toArray, List.getElem?_cons_zero, Option.some.injEq] at ho
    subst ho
    refine ⟨by rfl, fun w hSw => ?_⟩
    (try dsimp only at hSw)
    go_simp
    try with_reducible rfl
  try simp only [Act.put, List.setIfInBounds_toArray, List.set_cons_zero, List.set_cons_succ]
  refine wpAnyH_ready (rs := [1]) (by kernel_rfl) (by simp) ?_
  refine held_step (i := 1) (by kernel_rfl) (fun o ho K' hK => ?_) ?_
  · simp only [List.getElem?_toArray, List.getElem?_cons_zero, List.getElem?_cons_succ, Option.some.injEq] at ho
    subst ho
    go_simp
    go_at_call 19; refine (HSH.out _ (by first | exact (Ext.refl _).drew)).mono ?_; rintro e w1 ⟨rfl, hx1⟩; have hy1 := Ext.trans ((Ext.refl (w.alloc (boxC c la fa lk fk))).drew) hx1
    try go_wp2_with fail
    refine hK.out _ _ ?_ (fun hHeld => ?_)
    · (first | go_keep | exact HB.out _ (by first | exact hy15 | exact hy14 | exact hy13 | exact hy12 | exact hy11 | exact hy10 | exact hy9 | exact hy8 | exact hy7 | exact hy6 | exact hy5 | exact hy4 | exact hy3 | exact hy2 | exact hy1 | exact (Ext.refl _).drew))
    clear hK K'
    try simp only [List.setIfInBounds_toArray, List.set_cons_zero, List.set_cons_succ]
    refine held_take (i := 2) (d := some 11) (v := ?_) (by kernel_rfl) (by kernel_rfl) (by kernel_rfl) (by kernel_rfl) (fun _ _ _ h => h) (fun o ho => ?_) hHeld ?_
    rotate_left
    · simp only [List.getElem?_toArray, List.getElem?_cons_zero, List.getElem?_cons_succ, Option.some.injEq] at ho
      subst ho
      refine ⟨by rfl, fun w hSw => ?_⟩
      (try dsimp only at hSw)
      go_simp
      try with_reducible rfl
    try simp only [Act.put, List.setIfInBounds_toArray, List.set_cons_zero, List.set_cons_succ]
    refine held_take (i := 3) (d := some 12) (v := ?_) (by kernel_rfl) (by kernel_rfl) (by kernel_rfl) (by kernel_rfl) (fun _ _ _ h => h) (fun o ho => ?_) hHeld ?_
    rotate_left
    · simp only [List.getElem?_toArray, List.getElem?_cons_zero, List.getElem?_cons_succ, Option.some.injEq] at ho
      subst ho
      refine ⟨by rfl, fun w hSw => ?_⟩
      (try dsimp only at hSw)
      go_simp
      try with_reducible rfl
    try simp only [Act.put, List.setIfInBounds_toArray, List.set_cons_zero, List.set_cons_succ]
    refine held_take (i := 4) (d := some 13) (v := ?_) (by kernel_rfl) (by kernel_rfl) (by kernel_rfl) (by kernel_rfl) (fun _ _ _ h => h) (fun o ho => ?_) hHeld ?_
    rotate_left
    · simp only [List.getElem?_toArray, List.getElem?_cons_zero, List.getElem?_cons_succ, Option.some.injEq] at ho
      subst ho
      refine ⟨by rfl, fun w hSw => ?_⟩
      (try dsimp only at hSw)
      go_simp
      try with_reducible rfl
    try simp only [Act.put, List.setIfInBounds_toArray, List.set_cons_zero, List.set_cons_succ]
    refine held_take (i := 5) (d := some 14) (v := ?_) (by kernel_rfl) (by kernel_rfl) (by kernel_rfl) (by kernel_rfl) (fun _ _ _ h => h) (fun o ho => ?_) hHeld ?_
    rotate_left
    · simp only [List.getElem?_toArray, List.getElem?_cons_zero, List.getElem?_cons_succ, Option.some.injEq] at ho
      subst ho
      refine ⟨by rfl, fun w hSw => ?_⟩
      (try dsimp only at hSw)
      go_simp
      try with_reducible rfl
    try simp only [Act.put, List.setIfInBounds_toArray, List.set_cons_zero, List.set_cons_succ]
    refine held_take (i := 6) (d := some 15) (v := ?_) (by kernel_rfl) (by kernel_rfl) (by kernel_rfl) (by kernel_rfl) (fun _ _ _ h => h) (fun o ho => ?_) hHeld ?_
    rotate_left
    · simp only [List.getElem?_toArray, List.getElem?_cons_zero, List.getElem?_cons_succ, Option.some.injEq] at ho
      subst ho
      refine ⟨by rfl, fun w hSw => ?_⟩
      (try dsimp only at hSw)
      go_simp
      try with_reducible rfl
    try simp only [Act.put, List.setIfInBounds_toArray, List.set_cons_zero, List.set_cons_succ]
    refine held_take (i := 7) (d := some 16) (v := ?_) (by kernel_rfl) (by kernel_rfl) (by kernel_rfl) (by kernel_rfl) (fun _ _ _ h => h) (fun o ho => ?_) hHeld ?_
    rotate_left
    · simp only [List.getElem?_toArray, List.getElem?_cons_zero, List.getElem?_cons_succ, Option.some.injEq] at ho
      subst ho
      refine ⟨by rfl, fun w hSw => ?_⟩
      (try dsimp only at hSw)
      go_simp
      try with_reducible rfl
    try simp only [Act.put, List.setIfInBounds_toArray, List.set_cons_zero, List.set_cons_succ]
    refine held_take (i := 8) (d := some 17) (v := ?_) (by kernel_rfl) (by kernel_rfl) (by kernel_rfl) (by kernel_rfl) (fun _ _ _ h => h) (fun o ho => ?_) hHeld ?_
    rotate_left
    · simp only [List.getElem?_toArray, List.getElem?_cons_zero, List.getElem?_cons_succ, Option.some.injEq] at ho
      subst ho
      refine ⟨by rfl, fun w hSw => ?_⟩
      (try dsimp only at hSw)
      go_simp
      try with_reducible rfl
    try simp only [Act.put, List.setIfInBounds_toArray, List.set_cons_zero, List.set_cons_succ]
    refine held_take (i := 9) (d := some 18) (v := ?_) (by kernel_rfl) (by kernel_rfl) (by kernel_rfl) (by kernel_rfl) (fun _ _ _ h => h) (fun o ho => ?_) hHeld ?_
    rotate_left
    · simp only [List.getElem?_toArray, List.getElem?_cons_zero, List.getElem?_cons_succ, Option.some.injEq] at ho
      subst ho
      refine ⟨by rfl, fun w hSw => ?_⟩
      (try dsimp only at hSw)
      go_simp
      try with_reducible rfl
    try simp only [Act.put, List.setIfInBounds_toArray, List.set_cons_zero, List.set_cons_succ]
    refine wpAnyH_ready (rs := [10]) (by kernel_rfl) (by simp) ?_
    refine held_step (i := 10) (by kernel_rfl) (fun o ho K' hK => ?_) ?_
    · simp only [List.getElem?_toArray, List.getElem?_cons_zero, List.getElem?_cons_succ, Option.some.injEq] at ho
      subst ho
      go_simp
      go_at_call 21; refine (HRR.out _ (by first | exact hy1)).mono ?_; rintro e w2 ⟨rfl, hx2⟩; have hy2 := Ext.trans (hy1) hx2
      try go_wp2_with fail
      refine hK.out _ _ ?_ (fun hHeld => ?_)
      · (first | go_keep | exact HB.out _ (by first | exact hy15 | exact hy14 | exact hy13 | exact hy12 | exact hy11 | exact hy10 | exact hy9 | exact hy8 | exact hy7 | exact hy6 | exact hy5 | exact hy4 | exact hy3 | exact hy2 | exact hy1 | exact (Ext.refl _).drew))
      clear hK K'
      try simp only [List.setIfInBounds_toArray, List.set_cons_zero, List.set_cons_succ]
      refine held_take (i := 11) (d := some 20) (v := ?_) (by kernel_rfl) (by kernel_rfl) (by kernel_rfl) (by kernel_rfl) (fun _ _ _ h => h) (fun o ho => ?_) hHeld ?_
      rotate_left
      · simp only [List.getElem?_toArray, List.getElem?_cons_zero, List.getElem?_cons_succ, Option.some.injEq] at ho
        subst ho
        refine ⟨by rfl, fun w hSw => ?_⟩
        (try dsimp only at hSw)
        go_simp
        try with_reducible rfl
      try simp only [Act.put, List.setIfInBounds_toArray, List.set_cons_zero, List.set_cons_succ]
      refine held_take (i := 12) (d := some 21) (v := ?_) (by kernel_rfl) (by kernel_rfl) (by kernel_rfl) (by kernel_rfl) (fun _ _ _ h => h) (fun o ho => ?_) hHeld ?_
      rotate_left
      · simp only [List.getElem?_toArray, List.getElem?_cons_zero, List.getElem?_cons_succ, Option.some.injEq] at ho
        subst ho
        refine ⟨by rfl, fun w hSw => ?_⟩
        (try dsimp only at hSw)
        go_simp
        try with_reducible rfl
      try simp only [Act.put, List.setIfInBounds_toArray, List.set_cons_zero, List.set_cons_succ]
      refine held_take (i := 13) (d := some 22) (v := ?_) (by kernel_rfl) (by kernel_rfl) (by kernel_rfl) (by kernel_rfl) (fun _ _ _ h => h) (fun o ho => ?_) hHeld ?_
      rotate_left
      · simp only [List.getElem?_toArray, List.getElem?_cons_zero, List.getElem?_cons_succ, Option.some.injEq] at ho
        subst ho
        refine ⟨by rfl, fun w hSw => ?_⟩
        (try dsimp only at hSw)
        go_simp
        try with_reducible rfl
      try simp only [Act.put, List.setIfInBounds_toArray, List.set_cons_zero, List.set_cons_succ]
      refine held_take (i := 14) (d := some 23) (v := ?_) (by kernel_rfl) (by kernel_rfl) (by kernel_rfl) (by kernel_rfl) (fun _ _ _ h => h) (fun o ho => ?_) hHeld ?_
      rotate_left
      · simp only [List.getElem?_toArray, List.getElem?_cons_zero, List.getElem?_cons_succ, Option.some.injEq] at ho
        subst ho
        refine ⟨by rfl, fun w hSw => ?_⟩
        (try dsimp only at hSw)
        go_simp
        try with_reducible rfl
      try simp only [Act.put, List.setIfInBounds_toArray, List.set_cons_zero, List.set_cons_succ]
      refine held_take (i := 15) (d := some 24) (v := ?_) (by kernel_rfl) (by kernel_rfl) (by kernel_rfl) (by kernel_rfl) (fun _ _ _ h => h) (fun o ho => ?_) hHeld ?_
      rotate_left
      · simp only [List.getElem?_toArray, List.getElem?_cons_zero, List.getElem?_cons_succ, Option.some.injEq] at ho
        subst ho
        refine ⟨by rfl, fun w hSw => ?_⟩
        (try dsimp only at hSw)
        go_simp
        try with_reducible rfl
      try simp only [Act.put, List.setIfInBounds_toArray, List.set_cons_zero, List.set_cons_succ]
      refine held_take (i := 16) (d := some 25) (v := ?_) (by kernel_rfl) (by kernel_rfl) (by kernel_rfl) (by kernel_rfl) (fun _ _ _ h => h) (fun o ho => ?_) hHeld ?_
      rotate_left
      · simp only [List.getElem?_toArray, List.getElem?_cons_zero, List.getElem?_cons_succ, Option.some.injEq] at ho
        subst ho
        refine ⟨by rfl, fun w hSw => ?_⟩
        (try dsimp only at hSw)
        go_simp
        try with_reducible rfl
      try simp only [Act.put, List.setIfInBounds_toArray, List.set_cons_zero, List.set_cons_succ]
      refine held_take (i := 17) (d := some 26) (v := ?_) (by kernel_rfl) (by kernel_rfl) (by kernel_rfl) (by kernel_rfl) (fun _ _ _ h => h) (fun o ho => ?_) hHeld ?_
      rotate_left
      · simp only [List.getElem?_toArray, List.getElem?_cons_zero, List.getElem?_cons_succ, Option.some.injEq] at ho
        subst ho
        refine ⟨by rfl, fun w hSw => ?_⟩
        (try dsimp only at hSw)
        go_simp
        try with_reducible rfl
      try simp only [Act.put, List.setIfInBounds_toArray, List.set_cons_zero, List.set_cons_succ]
      refine held_take (i := 18) (d := some 27) (v := ?_) (by kernel_rfl) (by kernel_rfl) (by kernel_rfl) (by kernel_rfl) (fun _ _ _ h => h) (fun o ho => ?_) hHeld ?_
      rotate_left
      · simp only [List.getElem?_toArray, List.getElem?_cons_zero, List.getElem?_cons_succ, Option.some.injEq] at ho
        subst ho
        refine ⟨by rfl, fun w hSw => ?_⟩
        (try dsimp only at hSw)
        go_simp
        try with_reducible rfl
      try simp only [Act.put, List.setIfInBounds_toArray, List.set_cons_zero, List.set_cons_succ]
      refine held_take (i := 19) (d := some 28) (v := ?_) (by kernel_rfl) (by kernel_rfl) (by kernel_rfl) (by kernel_rfl) (fun _ _ _ h => h) (fun o ho => ?_) hHeld ?_
      rotate_left
      · simp only [List.getElem?_toArray, List.getElem?_cons_zero, List.getElem?_cons_succ, Option.some.injEq] at ho
        subst ho
        refine ⟨by rfl, fun w hSw => ?_⟩
        (try dsimp only at hSw)
        go_simp
        try with_reducible rfl
      try simp only [Act.put, List.setIfInBounds_toArray, List.set_cons_zero, List.set_cons_succ]
      refine held_take (i := 20) (d := some 29) (v := ?_) (by kernel_rfl) (by kernel_rfl) (by kernel_rfl) (by kernel_rfl) (fun _ _ _ h => h) (fun o ho => ?_) hHeld ?_
      rotate_left
      · simp only [List.getElem?_toArray, List.getElem?_cons_zero, List.getElem?_cons_succ, Option.some.injEq] at ho
        subst ho
        refine ⟨by rfl, fun w hSw => ?_⟩
        (try dsimp only at hSw)
        go_simp
        try with_reducible rfl
      try simp only [Act.put, List.setIfInBounds_toArray, List.set_cons_zero, List.set_cons_succ]
      refine wpAnyH_ready (rs := [21]) (by kernel_rfl) (by simp) ?_
      refine held_step (i := 21) (by kernel_rfl) (fun o ho K' hK => ?_) ?_
      · simp only [List.getElem?_toArray, List.getElem?_cons_zero, List.getElem?_cons_succ, Option.some.injEq] at ho
        subst ho
        go_simp
        go_at_call 22; refine (HSO.out _ (by first | exact hy2)).mono ?_; rintro e w3 ⟨rfl, hx3⟩; have hy3 := Ext.trans (hy2) hx3
        try go_wp2_with fail
        refine hK.out _ _ ?_ (fun hHeld => ?_)
        · (first | go_keep | exact HB.out _ (by first | exact hy15 | exact hy14 | exact hy13 | exact hy12 | exact hy11 | exact hy10 | exact hy9 | exact hy8 | exact hy7 | exact hy6 | exact hy5 | exact hy4 | exact hy3 | exact hy2 | exact hy1 | exact (Ext.refl _).drew))
        clear hK K'
        try simp only [List.setIfInBounds_toArray, List.set_cons_zero, List.set_cons_succ]
        refine held_take (i := 22) (d := some 31) (v := ?_) (by kernel_rfl) (by kernel_rfl) (by kernel_rfl) (by kernel_rfl) (fun _ _ _ h => h) (fun o ho => ?_) hHeld ?_
        rotate_left
        · simp only [List.getElem?_toArray, List.getElem?_cons_zero, List.getElem?_cons_succ, Option.some.injEq] at ho
          subst ho
          refine ⟨by rfl, fun w hSw => ?_⟩
          (try dsimp only at hSw)
          go_simp
          try with_reducible rfl
        try simp only [Act.put, List.setIfInBounds_toArray, List.set_cons_zero, List.set_cons_succ]
        refine held_take (i := 23) (d := some 32) (v := ?_) (by kernel_rfl) (by kernel_rfl) (by kernel_rfl) (by kernel_rfl) (fun _ _ _ h => h) (fun o ho => ?_) hHeld ?_
        rotate_left
        · simp only [List.getElem?_toArray, List.getElem?_cons_zero, List.getElem?_cons_succ, Option.some.injEq] at ho
          subst ho
          refine ⟨by rfl, fun w hSw => ?_⟩
          (try dsimp only at hSw)
          go_simp
          try with_reducible rfl
        try simp only [Act.put, List.setIfInBounds_toArray, List.set_cons_zero, List.set_cons_succ]
        refine held_take (i := 24) (d := some 33) (v := ?_) (by kernel_rfl) (by kernel_rfl) (by kernel_rfl) (by kernel_rfl) (fun _ _ _ h => h) (fun o ho => ?_) hHeld ?_
        rotate_left
        · simp only [List.getElem?_toArray, List.getElem?_cons_zero, List.getElem?_cons_succ, Option.some.injEq] at ho
          subst ho
          refine ⟨by rfl, fun w hSw => ?_⟩
          (try dsimp only at hSw)
          go_simp
          try with_reducible rfl
        try simp only [Act.put, List.setIfInBounds_toArray, List.set_cons_zero, List.set_cons_succ]
        refine held_take (i := 25) (d := some 34) (v := ?_) (by kernel_rfl) (by kernel_rfl) (by kernel_rfl) (by kernel_rfl) (fun _ _ _ h => h) (fun o ho => ?_) hHeld ?_
        rotate_left
        · simp only [List.getElem?_toArray, List.getElem?_cons_zero, List.getElem?_cons_succ, Option.some.injEq] at ho
          subst ho
          refine ⟨by rfl, fun w hSw => ?_⟩
          (try dsimp only at hSw)
          go_simp
          try with_reducible rfl
        try simp only [Act.put, List.setIfInBounds_toArray, List.set_cons_zero, List.set_cons_succ]
        refine wpAnyH_ready (rs := [26]) (by kernel_rfl) (by simp) ?_
        refine held_step (i := 26) (by kernel_rfl) (fun o ho K' hK => ?_) ?_
        · simp only [List.getElem?_toArray, List.getElem?_cons_zero, List.getElem?_cons_succ, Option.some.injEq] at ho
          subst ho
          go_simp
          go_at_call 28; refine (HSR.out _ (by first | exact hy3)).mono ?_; rintro e w4 ⟨v4, rfl, hx4, hi4⟩; have hy4 := Ext.trans (hy3) hx4; obtain ⟨a4, c4, rfl, _⟩ := hi4.open; have HI4 := Lib.hid hi4; clear hi4
          try go_wp2_with fail
          refine hK.out _ _ ?_ (fun hHeld => ?_)
          · (first | go_keep | exact HB.out _ (by first | exact hy15 | exact hy14 | exact hy13 | exact hy12 | exact hy11 | exact hy10 | exact hy9 | exact hy8 | exact hy7 | exact hy6 | exact hy5 | exact hy4 | exact hy3 | exact hy2 | exact hy1 | exact (Ext.refl _).drew))
          clear hK K'
          try simp only [List.setIfInBounds_toArray, List.set_cons_zero, List.set_cons_succ]
          refine wpAnyH_ready (rs := [27]) (by kernel_rfl) (by simp) ?_
          refine held_step (i := 27) (by kernel_rfl) (fun o ho K' hK => ?_) ?_
          · simp only [List.getElem?_toArray, List.getElem?_cons_zero, List.getElem?_cons_succ, Option.some.injEq] at ho
            subst ho
            go_simp
            go_at_call 23; refine (HRI.out _ (by first | exact hy4) _ HI4.out).mono ?_; rintro e w5 ⟨rfl, hx5⟩; have hy5 := Ext.trans (hy4) hx5
            try go_wp2_with fail
            refine hK.out _ _ ?_ (fun hHeld => ?_)
            · (first | go_keep | exact HB.out _ (by first | exact hy15 | exact hy14 | exact hy13 | exact hy12 | exact hy11 | exact hy10 | exact hy9 | exact hy8 | exact hy7 | exact hy6 | exact hy5 | exact hy4 | exact hy3 | exact hy2 | exact hy1 | exact (Ext.refl _).drew))
            clear hK K'
            try simp only [List.setIfInBounds_toArray, List.set_cons_zero, List.set_cons_succ]
            refine held_take (i := 28) (d := some 37) (v := ?_) (by kernel_rfl) (by kernel_rfl) (by kernel_rfl) (by kernel_rfl) (fun _ _ _ h => h) (fun o ho => ?_) hHeld ?_
            rotate_left
            · simp only [List.getElem?_toArray, List.getElem?_cons_zero, List.getElem?_cons_succ, Option.some.injEq] at ho
              subst ho
              refine ⟨by rfl, fun w hSw => ?_⟩
              (try dsimp only at hSw)
              go_simp
              try with_reducible rfl
            try simp only [Act.put, List.setIfInBounds_toArray, List.set_cons_zero, List.set_cons_succ]
            refine held_take (i := 29) (d := some 38) (v := ?_) (by kernel_rfl) (by kernel_rfl) (by kernel_rfl) (by kernel_rfl) (fun _ _ _ h => h) (fun o ho => ?_) hHeld ?_
            rotate_left
            · simp only [List.getElem?_toArray, List.getElem?_cons_zero, List.getElem?_cons_succ, Option.some.injEq] at ho
              subst ho
              refine ⟨by rfl, fun w hSw => ?_⟩
              (try dsimp only at hSw)
              go_simp
              try with_reducible rfl
            try simp only [Act.put, List.setIfInBounds_toArray, List.set_cons_zero, List.set_cons_succ]
            refine held_take (i := 30) (d := some 39) (v := ?_) (by kernel_rfl) (by kernel_rfl) (by kernel_rfl) (by kernel_rfl) (fun _ _ _ h => h) (fun o ho => ?_) hHeld ?_
            rotate_left
            · simp only [List.getElem?_toArray, List.getElem?_cons_zero, List.getElem?_cons_succ, Option.some.injEq] at ho
              subst ho
              refine ⟨by rfl, fun w hSw => ?_⟩
              (try dsimp only at hSw)
              go_simp
              try with_reducible rfl
            try simp only [Act.put, List.setIfInBounds_toArray, List.set_cons_zero, List.set_cons_succ]
            refine held_skips (is := [31, 32, 33, 34, 35, 36]) (k := 6) (l' := #[true, true, true, true, true, true, true, true, true, true, true, true, true, true, true, true, true, true, true, true, true, true, true, true, true, true, true, true, true, true, true, true, true, true, true, true, true, false]) (by kernel_rfl) rfl (by assumption) ?_
            refine held_take (i := 37) (d := some 46) (v := ?_) (by kernel_rfl) (by kernel_rfl) (by kernel_rfl) (by kernel_rfl) (fun _ _ _ h => h) (fun o ho => ?_) hHeld ?_
            rotate_left
            · simp only [List.getElem?_toArray, List.getElem?_cons_zero, List.getElem?_cons_succ, Option.some.injEq] at ho
              subst ho
              refine ⟨by rfl, fun w hSw => ?_⟩
              (try dsimp only at hSw)
              go_simp
              try with_reducible rfl
            try simp only [Act.put, List.setIfInBounds_toArray, List.set_cons_zero, List.set_cons_succ]
            refine wpAnyH_done (by kernel_rfl) ?_ _
            try simp only [List.setIfInBounds_toArray, List.set_cons_zero, List.set_cons_succ]
            go_wp2_with (go_at_call 11; refine (HL.out _ hy5).mono ?_; rintro e wk ⟨rfl, hxk⟩)
            go_ret
            exact ⟨rfl, (HX0.out.trans hy5).trans hxk⟩
          exact AllReadyH.nil
        exact AllReadyH.nil
      exact AllReadyH.nil
    exact AllReadyH.nil
  exact AllReadyH.nil

set_option maxRecDepth 100000 in
set_option maxHeartbeats 16000000 in
theorem late0 (v : Value) (c : Roads) (hv : Value) (hs : List Int) (w : World) (hR : RoadsAt w v c) (hH : IntsAt w hv hs) (ht : TabOk w)
    (hsh : shortB c = true) (h7 : hs.length ≤ 7) (hr : isRoadsB c = true) (h0 : ¬ hs.length = 0) (hso : someB c hs = true) (hri : risingB (srt hs) = true) (hld : c.bears < loadOf c hs) : Calls Tryz.prog 5 #[v, hv] w (TrueP w) := by
  have hR' := hR
  have hH' := hH
  obtain ⟨lv, fv, rfl, hll, hff⟩ := hR
  obtain ⟨la, lk, rfl, l1, l2, _⟩ := hll.open
  obtain ⟨fa, fk, rfl, f1, f2, _⟩ := hff.open
  obtain ⟨ha, hk, rfl, k1, k2, _⟩ := hH.open
  have hx0 : Ext w (w.alloc (boxC c la fa lk fk)) := (Ext.refl w).alloc _
  have HX0 := Lib.hid hx0
  have HSH := Lib.hid (fun w1 (hx : Ext (w.alloc (boxC c la fa lk fk)) w1) => short_any _ c w1 (hR'.ext (hx0.trans hx)))
  have HRR0 := Lib.hid (fun (h0 : c.loads.length ≤ 1000) w1 (hx : Ext (w.alloc (boxC c la fa lk fk)) w1) => rroads_any _ c w1 (hR'.ext (hx0.trans hx)) h0)
  have HSO := Lib.hid (fun w1 (hx : Ext (w.alloc (boxC c la fa lk fk)) w1) => rsome_any _ _ c hs w1 (hR'.ext (hx0.trans hx)) (hH'.ext (hx0.trans hx)))
  have HSR0 := Lib.hid (fun (h0 : hs.length ≤ 1000) w1 (hx : Ext (w.alloc (boxC c la fa lk fk)) w1) => sort_any _ hs w1 (hH'.ext (hx0.trans hx)) h0)
  have HRI := Lib.hid (fun w1 (hx : Ext (w.alloc (boxC c la fa lk fk)) w1) u (hu : IntsAt w1 u (srt hs)) => rrising_any u (srt hs) w1 hu)
  have HLO0 := Lib.hid (fun (hb : RoadsB c) hst (h0 : hs.length ≤ 1000) w1 (hx : Ext (w.alloc (boxC c la fa lk fk)) w1) => rload_any _ _ c hs w1 hb (hR'.ext (hx0.trans hx)) (hH'.ext (hx0.trans hx)) hst h0)
  have HTA0 := Lib.hid (fun (h0 : (srt hs).length ≤ 1000) hld w1 (hx : Ext (w.alloc (boxC c la fa lk fk)) w1) u (hu : IntsAt w1 u (srt hs)) => tour_any _ u c (srt hs) w1 (hR'.ext (hx0.trans hx)) hu h0 hld)
  have HST0 := Lib.hid (fun w1 (hx : Ext (w.alloc (boxC c la fa lk fk)) w1) u xs (hu : IntsAt w1 u xs) => rsome_any _ u c xs w1 (hR'.ext (hx0.trans hx)) hu)
  have HSTT0 := Lib.hid (fun w1 (hx : Ext (w.alloc (boxC c la fa lk fk)) w1) u xs (hu : IntsAt w1 u xs) (h0 : xs.length ≤ 1000) => sort_any u xs w1 hu h0)
  have HLN0 := Lib.hid (fun (hb : RoadsB c) u xs hst (h0 : xs.length ≤ 1000) w1 (hx : Ext (w.alloc (boxC c la fa lk fk)) w1) (hu : IntsAt w1 u xs) => rlength_any _ u c xs w1 hb (hR'.ext (hx0.trans hx)) hu hst h0)
  have HOT := Lib.hid (fun w1 (hx : Ext (w.alloc (boxC c la fa lk fk)) w1) => hH'.ext (hx0.trans hx))
  have HL := Lib.hid (fun w1 (hx : Ext (w.alloc (boxC c la fa lk fk)) w1) => lknown_any w1 (ht.ext (hx0.trans hx)))
  have HB := Lib.hid (fun W (h : Ext (w.alloc (boxC c la fa lk fk)) W) => boxC_cells ((h.block (by simp)).trans (World.alloc_heap_new w (boxC c la fa lk fk))))
  have hmix : Tryz.prog.follows .mixedOrders = true := by kernel_rfl
  have hL7 : c.loads.length ≤ 7 := by
    unfold shortB at hsh
    simp only [Bool.and_eq_true, decide_eq_true_eq] at hsh
    omega
  have HRR := Lib.hid (HRR0.out (by omega))
  have HSR := Lib.hid (HSR0.out (by omega))
  have x1 : decide ((7 : Int) < (hs.length : Int)) = false := by simp; omega
  have y1 : ((hs.length : Int) == 0) = false := by rw [beq_eq_false_iff_ne]; omega
  have y2 : (hs.length == 0) = false := by rw [beq_eq_false_iff_ne]; exact h0
  rw [hsh] at HSH
  rw [hr] at HRR
  rw [hso] at HSO
  rw [hri] at HRI
  have hst := some_stop hso
  have hB := roadsB_of hr
  have HLO := Lib.hid (HLO0.out hB hst (by omega))
  have hsp := srt_perm hs
  have hbs : badStops c (srt hs) = false := by rw [stops_parts, some_perm hsp, hso, hri]; rfl
  clear hR' hH' hll hff hH hx0 ht HRR0 HSR0 HLO0
  have u1 : decide (c.bears < loadOf c hs) = true := by simpa using hld
  clear hsh hr h0 hso hri hst hB hsp hbs hld HTA0 HST0 HSTT0 HLN0
  go_enter Tryz.func5, Tryz.ntmps5
  go_upto_region 1 with fail
  have hk0 := HB.out _ ((Ext.refl (w.alloc (boxC c la fa lk fk))).drew)
  go_region_held3 (fun w' => w'.cell? ⟨w.heap.size, 0, none⟩ = some (.slice la c.loads.length lk) ∧ w'.cell? ⟨w.heap.size, 1, none⟩ = some (.int .i64 c.bears) ∧ w'.cell? ⟨w.heap.size, 2, none⟩ = some (.slice fa c.far.length fk))
    (first | go_keep | exact HB.out _ (by first | exact hy15 | exact hy14 | exact hy13 | exact hy12 | exact hy11 | exact hy10 | exact hy9 | exact hy8 | exact hy7 | exact hy6 | exact hy5 | exact hy4 | exact hy3 | exact hy2 | exact hy1 | exact (Ext.refl _).drew))
    (first
                  | (go_at_call 19; refine (HSH.out _ (by first | exact (Ext.refl _).drew)).mono ?_; rintro e w1 ⟨rfl, hx1⟩; have hy1 := Ext.trans ((Ext.refl (w.alloc (boxC c la fa lk fk))).drew) hx1)
                  | (go_at_call 21; refine (HRR.out _ (by first | exact hy1)).mono ?_; rintro e w2 ⟨rfl, hx2⟩; have hy2 := Ext.trans (hy1) hx2)
                  | (go_at_call 22; refine (HSO.out _ (by first | exact hy2)).mono ?_; rintro e w3 ⟨rfl, hx3⟩; have hy3 := Ext.trans (hy2) hx3)
                  | (go_at_call 28; refine (HSR.out _ (by first | exact hy3)).mono ?_; rintro e w4 ⟨v4, rfl, hx4, hi4⟩; have hy4 := Ext.trans (hy3) hx4; obtain ⟨a4, c4, rfl, _⟩ := hi4.open; have HI4 := Lib.hid hi4; clear hi4)
                  | (go_at_call 23; refine (HRI.out _ (by first | exact hy4) _ HI4.out).mono ?_; rintro e w5 ⟨rfl, hx5⟩; have hy5 := Ext.trans (hy4) hx5)
                  | (go_at_call 24; refine (HLO.out _ (by first | exact hy5)).mono ?_; rintro e w6 ⟨rfl, hx6⟩; have hy6 := Ext.trans (hy5) hx6))
  go_wp2_with (go_at_call 11; refine (HL.out _ hy6).mono ?_; rintro e wk ⟨rfl, hxk⟩)
  go_ret
  exact ⟨rfl, (HX0.out.trans hy6).trans hxk⟩

set_option maxRecDepth 100000 in
set_option maxHeartbeats 16000000 in
theorem late1 (v : Value) (c : Roads) (hv : Value) (hs : List Int) (w : World) (hR : RoadsAt w v c) (hH : IntsAt w hv hs) (ht : TabOk w)
    (hsh : shortB c = true) (h7 : hs.length ≤ 7) (hr : isRoadsB c = true) (h0 : ¬ hs.length = 0) (hso : someB c hs = true) (hri : risingB (srt hs) = true) (hld : ¬ c.bears < loadOf c hs) (hcmp0 : lengthOf c (refTour c (srt hs)) < lengthOf c hs) : Calls Tryz.prog 5 #[v, hv] w (TrueP w) := by
  have hR' := hR
  have hH' := hH
  obtain ⟨lv, fv, rfl, hll, hff⟩ := hR
  obtain ⟨la, lk, rfl, l1, l2, _⟩ := hll.open
  obtain ⟨fa, fk, rfl, f1, f2, _⟩ := hff.open
  obtain ⟨ha, hk, rfl, k1, k2, _⟩ := hH.open
  have hx0 : Ext w (w.alloc (boxC c la fa lk fk)) := (Ext.refl w).alloc _
  have HX0 := Lib.hid hx0
  have HSH := Lib.hid (fun w1 (hx : Ext (w.alloc (boxC c la fa lk fk)) w1) => short_any _ c w1 (hR'.ext (hx0.trans hx)))
  have HRR0 := Lib.hid (fun (h0 : c.loads.length ≤ 1000) w1 (hx : Ext (w.alloc (boxC c la fa lk fk)) w1) => rroads_any _ c w1 (hR'.ext (hx0.trans hx)) h0)
  have HSO := Lib.hid (fun w1 (hx : Ext (w.alloc (boxC c la fa lk fk)) w1) => rsome_any _ _ c hs w1 (hR'.ext (hx0.trans hx)) (hH'.ext (hx0.trans hx)))
  have HSR0 := Lib.hid (fun (h0 : hs.length ≤ 1000) w1 (hx : Ext (w.alloc (boxC c la fa lk fk)) w1) => sort_any _ hs w1 (hH'.ext (hx0.trans hx)) h0)
  have HRI := Lib.hid (fun w1 (hx : Ext (w.alloc (boxC c la fa lk fk)) w1) u (hu : IntsAt w1 u (srt hs)) => rrising_any u (srt hs) w1 hu)
  have HLO0 := Lib.hid (fun (hb : RoadsB c) hst (h0 : hs.length ≤ 1000) w1 (hx : Ext (w.alloc (boxC c la fa lk fk)) w1) => rload_any _ _ c hs w1 hb (hR'.ext (hx0.trans hx)) (hH'.ext (hx0.trans hx)) hst h0)
  have HTA0 := Lib.hid (fun (h0 : (srt hs).length ≤ 1000) hld w1 (hx : Ext (w.alloc (boxC c la fa lk fk)) w1) u (hu : IntsAt w1 u (srt hs)) => tour_any _ u c (srt hs) w1 (hR'.ext (hx0.trans hx)) hu h0 hld)
  have HST0 := Lib.hid (fun w1 (hx : Ext (w.alloc (boxC c la fa lk fk)) w1) u xs (hu : IntsAt w1 u xs) => rsome_any _ u c xs w1 (hR'.ext (hx0.trans hx)) hu)
  have HSTT0 := Lib.hid (fun w1 (hx : Ext (w.alloc (boxC c la fa lk fk)) w1) u xs (hu : IntsAt w1 u xs) (h0 : xs.length ≤ 1000) => sort_any u xs w1 hu h0)
  have HLN0 := Lib.hid (fun (hb : RoadsB c) u xs hst (h0 : xs.length ≤ 1000) w1 (hx : Ext (w.alloc (boxC c la fa lk fk)) w1) (hu : IntsAt w1 u xs) => rlength_any _ u c xs w1 hb (hR'.ext (hx0.trans hx)) hu hst h0)
  have HOT := Lib.hid (fun w1 (hx : Ext (w.alloc (boxC c la fa lk fk)) w1) => hH'.ext (hx0.trans hx))
  have HL := Lib.hid (fun w1 (hx : Ext (w.alloc (boxC c la fa lk fk)) w1) => lknown_any w1 (ht.ext (hx0.trans hx)))
  have HB := Lib.hid (fun W (h : Ext (w.alloc (boxC c la fa lk fk)) W) => boxC_cells ((h.block (by simp)).trans (World.alloc_heap_new w (boxC c la fa lk fk))))
  have hmix : Tryz.prog.follows .mixedOrders = true := by kernel_rfl
  have hL7 : c.loads.length ≤ 7 := by
    unfold shortB at hsh
    simp only [Bool.and_eq_true, decide_eq_true_eq] at hsh
    omega
  have HRR := Lib.hid (HRR0.out (by omega))
  have HSR := Lib.hid (HSR0.out (by omega))
  have x1 : decide ((7 : Int) < (hs.length : Int)) = false := by simp; omega
  have y1 : ((hs.length : Int) == 0) = false := by rw [beq_eq_false_iff_ne]; omega
  have y2 : (hs.length == 0) = false := by rw [beq_eq_false_iff_ne]; exact h0
  rw [hsh] at HSH
  rw [hr] at HRR
  rw [hso] at HSO
  rw [hri] at HRI
  have hst := some_stop hso
  have hB := roadsB_of hr
  have HLO := Lib.hid (HLO0.out hB hst (by omega))
  have hsp := srt_perm hs
  have hbs : badStops c (srt hs) = false := by rw [stops_parts, some_perm hsp, hso, hri]; rfl
  clear hR' hH' hll hff hH hx0 ht HRR0 HSR0 HLO0
  have u1 : decide (c.bears < loadOf c hs) = false := by simpa using hld
  have hsl : (srt hs).length = hs.length := hsp.length_eq
  have hnd := nodup_of_stops hbs
  have hld2 : loadOf c (srt hs) ≤ c.bears := by rw [loadOf_perm hsp]; omega
  have HTA := Lib.hid (HTA0.out (by omega) (fun _ _ x hx => by rw [loadOf_perm (ordersOf_perm hx)]; exact hld2))
  have HOK : Hid (¬ (isRoadsB c = false ∨ (srt hs).length = 0 ∨ badStops c (srt hs) = true)) := by unfold Hid; rw [hr, hbs, hsl]; simpa using h0
  have HBT := Lib.hid (refTour_eq (c := c) hnd)
  have htp := (refTour_perm (c := c) hnd).trans hsp
  have htl := htp.length_eq
  have htst : ∀ n, n ∈ refTour c (srt hs) → 1 ≤ n ∧ n ≤ c.loads.length := fun n hn => hst n (htp.mem_iff.1 hn)
  have HST := Lib.hid (fun w1 hx u hu => HST0.out w1 hx u (refTour c (srt hs)) hu)
  have hst2 : someB c (refTour c (srt hs)) = true := by rw [some_perm htp]; exact hso
  rw [hst2] at HST
  have HS10 := Lib.hid (fun w1 hx u hu => HSTT0.out w1 hx u (refTour c (srt hs)) hu (by omega))
  rw [srt_congr htp] at HS10
  have HLT := Lib.hid (fun w1 hx u hu => HLN0.out hB u (refTour c (srt hs)) htst (by omega) w1 hx hu)
  have HLO2 := Lib.hid (fun w1 hx u hu => HLN0.out hB u hs hst (by omega) w1 hx hu)
  generalize refTour c (srt hs) = T at *
  have HTL := Lib.hid htl
  clear hsh hr h0 hso hri hst hB hsp hbs hld HTA0 HST0 HSTT0 HLN0 hnd hld2 htp htst hst2 hsl
  clear htl
  have hcmp := hcmp0
  have q1 : decide (lengthOf c T < lengthOf c hs) = true := by simpa using hcmp
  clear hcmp
  go_enter Tryz.func5, Tryz.ntmps5
  go_upto_region 1 with fail
  have hk0 := HB.out _ ((Ext.refl (w.alloc (boxC c la fa lk fk))).drew)
  go_region_held3 (fun w' => w'.cell? ⟨w.heap.size, 0, none⟩ = some (.slice la c.loads.length lk) ∧ w'.cell? ⟨w.heap.size, 1, none⟩ = some (.int .i64 c.bears) ∧ w'.cell? ⟨w.heap.size, 2, none⟩ = some (.slice fa c.far.length fk))
    (first | go_keep | exact HB.out _ (by first | exact hy15 | exact hy14 | exact hy13 | exact hy12 | exact hy11 | exact hy10 | exact hy9 | exact hy8 | exact hy7 | exact hy6 | exact hy5 | exact hy4 | exact hy3 | exact hy2 | exact hy1 | exact (Ext.refl _).drew))
    (first
                    | (go_at_call 19; refine (HSH.out _ (by first | exact (Ext.refl _).drew)).mono ?_; rintro e w1 ⟨rfl, hx1⟩; have hy1 := Ext.trans ((Ext.refl (w.alloc (boxC c la fa lk fk))).drew) hx1)
                    | (go_at_call 21; refine (HRR.out _ (by first | exact hy1)).mono ?_; rintro e w2 ⟨rfl, hx2⟩; have hy2 := Ext.trans (hy1) hx2)
                    | (go_at_call 22; refine (HSO.out _ (by first | exact hy2)).mono ?_; rintro e w3 ⟨rfl, hx3⟩; have hy3 := Ext.trans (hy2) hx3)
                    | (go_at_call 28; refine (HSR.out _ (by first | exact hy3)).mono ?_; rintro e w4 ⟨v4, rfl, hx4, hi4⟩; have hy4 := Ext.trans (hy3) hx4; obtain ⟨a4, c4, rfl, _⟩ := hi4.open; have HI4 := Lib.hid hi4; clear hi4)
                    | (go_at_call 23; refine (HRI.out _ (by first | exact hy4) _ HI4.out).mono ?_; rintro e w5 ⟨rfl, hx5⟩; have hy5 := Ext.trans (hy4) hx5)
                    | (go_at_call 24; refine (HLO.out _ (by first | exact hy5)).mono ?_; rintro e w6 ⟨rfl, hx6⟩; have hy6 := Ext.trans (hy5) hx6))
  go_upto_region 3 with fail
  have hk1 := HB.out _ (hy6.trans ((Ext.refl w6).drew))
  go_region_held3 (fun w' => w'.cell? ⟨w.heap.size, 0, none⟩ = some (.slice la c.loads.length lk) ∧ w'.cell? ⟨w.heap.size, 1, none⟩ = some (.int .i64 c.bears) ∧ w'.cell? ⟨w.heap.size, 2, none⟩ = some (.slice fa c.far.length fk))
    (first | go_keep | exact HB.out _ (by first | exact hy6.trans ((Ext.refl w6).drew) | exact hy15 | exact hy14 | exact hy13 | exact hy12 | exact hy11 | exact hy10 | exact hy9 | exact hy8 | exact hy7 | exact hy5 | exact hy4 | exact hy3 | exact hy2 | exact hy1 | exact (Ext.refl _).drew))
    (first
      | (go_at_call 28; refine (HSR.out _ (by first | exact (hy6.trans ((Ext.refl w6).drew)))).mono ?_; rintro e w7 ⟨v7, rfl, hx7, hi7⟩; have hy7 := Ext.trans ((hy6.trans ((Ext.refl w6).drew))) hx7; obtain ⟨a7, c7, rfl, _⟩ := hi7.open; have HI7 := Lib.hid hi7; clear hi7)
      | (go_at_call 20; refine (HTA.out _ hy7 _ HI7.out).mono ?_; rintro e w8 ⟨nv, d, err, rfl, hx8, hq⟩; have hy8 := hy7.trans hx8; rw [if_neg HOK.out, HBT.out] at hq; obtain ⟨rfl, rfl, hin⟩ := hq; obtain ⟨ta, tk, hnv, _⟩ := hin.open; rw [HTL.out] at hnv; subst hnv; have HIN := Lib.hid hin; clear hin))
  obtain ⟨z0, z1, z2⟩ := HB.out _ hy8
  go_wp2_with (first
    | (go_at_call 22; refine (HST.out _ hy8 _ HIN.out).mono ?_; rintro e w9 ⟨rfl, hx9⟩; have hy9 := hy8.trans hx9; clear z0 z1 z2; obtain ⟨z0, z1, z2⟩ := HB.out _ hy9; have HI9 := Lib.hid (HIN.out.ext hx9))
    | (go_at_call 28; refine (HS10.out _ hy9 _ HI9.out).mono ?_; rintro e w10 ⟨v10, rfl, hx10, hi10⟩; have hy10 := hy9.trans hx10; obtain ⟨a10, c10, rfl, _⟩ := hi10.open; have HI10 := Lib.hid hi10; clear hi10 HS10)
    | (go_at_call 28; refine (HSR.out _ hy10).mono ?_; rintro e w11 ⟨v11, rfl, hx11, hi11⟩; have hy11 := hy10.trans hx11; obtain ⟨a11, c11, rfl, _⟩ := hi11.open; have HI11 := Lib.hid hi11; clear hi11)
    | (go_at_call 26; refine (same_yes _ _ _ _ (HI10.out.ext hx11) HI11.out).mono ?_; rintro e w12 ⟨rfl, hx12⟩; have hy12 := hy11.trans hx12; clear z0 z1 z2; obtain ⟨z0, z1, z2⟩ := HB.out _ hy12; have HI12 := Lib.hid (((HI9.out.ext hx10).ext hx11).ext hx12))
    | (go_at_call 27; refine (HLT.out _ hy12 _ HI12.out).mono ?_; rintro e w13 ⟨rfl, hx13⟩; have hy13 := hy12.trans hx13; clear z0 z1 z2 HLT; obtain ⟨z0, z1, z2⟩ := HB.out _ hy13)
    | (go_at_call 27; refine (HLO2.out _ hy13 _ (HOT.out _ hy13)).mono ?_; rintro e w14 ⟨rfl, hx14⟩; have hy14 := hy13.trans hx14)
    | (go_at_call 11; refine (HL.out _ hy14).mono ?_; rintro e wk ⟨rfl, hxk⟩))
  go_ret
  exact ⟨rfl, (HX0.out.trans hy14).trans hxk⟩

set_option maxRecDepth 100000 in
set_option maxHeartbeats 16000000 in
theorem late2 (v : Value) (c : Roads) (hv : Value) (hs : List Int) (w : World) (hR : RoadsAt w v c) (hH : IntsAt w hv hs) (ht : TabOk w)
    (hsh : shortB c = true) (h7 : hs.length ≤ 7) (hr : isRoadsB c = true) (h0 : ¬ hs.length = 0) (hso : someB c hs = true) (hri : risingB (srt hs) = true) (hld : ¬ c.bears < loadOf c hs) (hcmp0 : lengthOf c hs = lengthOf c (refTour c (srt hs)) ∧ befB hs (refTour c (srt hs)) = false) : Calls Tryz.prog 5 #[v, hv] w (TrueP w) := by
  have hR' := hR
  have hH' := hH
  obtain ⟨lv, fv, rfl, hll, hff⟩ := hR
  obtain ⟨la, lk, rfl, l1, l2, _⟩ := hll.open
  obtain ⟨fa, fk, rfl, f1, f2, _⟩ := hff.open
  obtain ⟨ha, hk, rfl, k1, k2, _⟩ := hH.open
  have hx0 : Ext w (w.alloc (boxC c la fa lk fk)) := (Ext.refl w).alloc _
  have HX0 := Lib.hid hx0
  have HSH := Lib.hid (fun w1 (hx : Ext (w.alloc (boxC c la fa lk fk)) w1) => short_any _ c w1 (hR'.ext (hx0.trans hx)))
  have HRR0 := Lib.hid (fun (h0 : c.loads.length ≤ 1000) w1 (hx : Ext (w.alloc (boxC c la fa lk fk)) w1) => rroads_any _ c w1 (hR'.ext (hx0.trans hx)) h0)
  have HSO := Lib.hid (fun w1 (hx : Ext (w.alloc (boxC c la fa lk fk)) w1) => rsome_any _ _ c hs w1 (hR'.ext (hx0.trans hx)) (hH'.ext (hx0.trans hx)))
  have HSR0 := Lib.hid (fun (h0 : hs.length ≤ 1000) w1 (hx : Ext (w.alloc (boxC c la fa lk fk)) w1) => sort_any _ hs w1 (hH'.ext (hx0.trans hx)) h0)
  have HRI := Lib.hid (fun w1 (hx : Ext (w.alloc (boxC c la fa lk fk)) w1) u (hu : IntsAt w1 u (srt hs)) => rrising_any u (srt hs) w1 hu)
  have HLO0 := Lib.hid (fun (hb : RoadsB c) hst (h0 : hs.length ≤ 1000) w1 (hx : Ext (w.alloc (boxC c la fa lk fk)) w1) => rload_any _ _ c hs w1 hb (hR'.ext (hx0.trans hx)) (hH'.ext (hx0.trans hx)) hst h0)
  have HTA0 := Lib.hid (fun (h0 : (srt hs).length ≤ 1000) hld w1 (hx : Ext (w.alloc (boxC c la fa lk fk)) w1) u (hu : IntsAt w1 u (srt hs)) => tour_any _ u c (srt hs) w1 (hR'.ext (hx0.trans hx)) hu h0 hld)
  have HST0 := Lib.hid (fun w1 (hx : Ext (w.alloc (boxC c la fa lk fk)) w1) u xs (hu : IntsAt w1 u xs) => rsome_any _ u c xs w1 (hR'.ext (hx0.trans hx)) hu)
  have HSTT0 := Lib.hid (fun w1 (hx : Ext (w.alloc (boxC c la fa lk fk)) w1) u xs (hu : IntsAt w1 u xs) (h0 : xs.length ≤ 1000) => sort_any u xs w1 hu h0)
  have HLN0 := Lib.hid (fun (hb : RoadsB c) u xs hst (h0 : xs.length ≤ 1000) w1 (hx : Ext (w.alloc (boxC c la fa lk fk)) w1) (hu : IntsAt w1 u xs) => rlength_any _ u c xs w1 hb (hR'.ext (hx0.trans hx)) hu hst h0)
  have HOT := Lib.hid (fun w1 (hx : Ext (w.alloc (boxC c la fa lk fk)) w1) => hH'.ext (hx0.trans hx))
  have HL := Lib.hid (fun w1 (hx : Ext (w.alloc (boxC c la fa lk fk)) w1) => lknown_any w1 (ht.ext (hx0.trans hx)))
  have HB := Lib.hid (fun W (h : Ext (w.alloc (boxC c la fa lk fk)) W) => boxC_cells ((h.block (by simp)).trans (World.alloc_heap_new w (boxC c la fa lk fk))))
  have hmix : Tryz.prog.follows .mixedOrders = true := by kernel_rfl
  have hL7 : c.loads.length ≤ 7 := by
    unfold shortB at hsh
    simp only [Bool.and_eq_true, decide_eq_true_eq] at hsh
    omega
  have HRR := Lib.hid (HRR0.out (by omega))
  have HSR := Lib.hid (HSR0.out (by omega))
  have x1 : decide ((7 : Int) < (hs.length : Int)) = false := by simp; omega
  have y1 : ((hs.length : Int) == 0) = false := by rw [beq_eq_false_iff_ne]; omega
  have y2 : (hs.length == 0) = false := by rw [beq_eq_false_iff_ne]; exact h0
  rw [hsh] at HSH
  rw [hr] at HRR
  rw [hso] at HSO
  rw [hri] at HRI
  have hst := some_stop hso
  have hB := roadsB_of hr
  have HLO := Lib.hid (HLO0.out hB hst (by omega))
  have hsp := srt_perm hs
  have hbs : badStops c (srt hs) = false := by rw [stops_parts, some_perm hsp, hso, hri]; rfl
  clear hR' hH' hll hff hH hx0 ht HRR0 HSR0 HLO0
  have u1 : decide (c.bears < loadOf c hs) = false := by simpa using hld
  have hsl : (srt hs).length = hs.length := hsp.length_eq
  have hnd := nodup_of_stops hbs
  have hld2 : loadOf c (srt hs) ≤ c.bears := by rw [loadOf_perm hsp]; omega
  have HTA := Lib.hid (HTA0.out (by omega) (fun _ _ x hx => by rw [loadOf_perm (ordersOf_perm hx)]; exact hld2))
  have HOK : Hid (¬ (isRoadsB c = false ∨ (srt hs).length = 0 ∨ badStops c (srt hs) = true)) := by unfold Hid; rw [hr, hbs, hsl]; simpa using h0
  have HBT := Lib.hid (refTour_eq (c := c) hnd)
  have htp := (refTour_perm (c := c) hnd).trans hsp
  have htl := htp.length_eq
  have htst : ∀ n, n ∈ refTour c (srt hs) → 1 ≤ n ∧ n ≤ c.loads.length := fun n hn => hst n (htp.mem_iff.1 hn)
  have HST := Lib.hid (fun w1 hx u hu => HST0.out w1 hx u (refTour c (srt hs)) hu)
  have hst2 : someB c (refTour c (srt hs)) = true := by rw [some_perm htp]; exact hso
  rw [hst2] at HST
  have HS10 := Lib.hid (fun w1 hx u hu => HSTT0.out w1 hx u (refTour c (srt hs)) hu (by omega))
  rw [srt_congr htp] at HS10
  have HLT := Lib.hid (fun w1 hx u hu => HLN0.out hB u (refTour c (srt hs)) htst (by omega) w1 hx hu)
  have HLO2 := Lib.hid (fun w1 hx u hu => HLN0.out hB u hs hst (by omega) w1 hx hu)
  generalize refTour c (srt hs) = T at *
  have HTL := Lib.hid htl
  clear hsh hr h0 hso hri hst hB hsp hbs hld HTA0 HST0 HSTT0 HLN0 hnd hld2 htp htst hst2 hsl
  clear htl
  obtain ⟨hcmp, hbf⟩ := hcmp0
  have q1 : decide (lengthOf c T < lengthOf c hs) = false := by simp; omega
  have q2 : (lengthOf c hs == lengthOf c T) = true := by rw [beq_iff_eq]; exact hcmp
  have HBF := Lib.hid hbf
  clear hcmp hbf
  go_enter Tryz.func5, Tryz.ntmps5
  go_upto_region 1 with fail
  have hk0 := HB.out _ ((Ext.refl (w.alloc (boxC c la fa lk fk))).drew)
  go_region_held3 (fun w' => w'.cell? ⟨w.heap.size, 0, none⟩ = some (.slice la c.loads.length lk) ∧ w'.cell? ⟨w.heap.size, 1, none⟩ = some (.int .i64 c.bears) ∧ w'.cell? ⟨w.heap.size, 2, none⟩ = some (.slice fa c.far.length fk))
    (first | go_keep | exact HB.out _ (by first | exact hy15 | exact hy14 | exact hy13 | exact hy12 | exact hy11 | exact hy10 | exact hy9 | exact hy8 | exact hy7 | exact hy6 | exact hy5 | exact hy4 | exact hy3 | exact hy2 | exact hy1 | exact (Ext.refl _).drew))
    (first
                    | (go_at_call 19; refine (HSH.out _ (by first | exact (Ext.refl _).drew)).mono ?_; rintro e w1 ⟨rfl, hx1⟩; have hy1 := Ext.trans ((Ext.refl (w.alloc (boxC c la fa lk fk))).drew) hx1)
                    | (go_at_call 21; refine (HRR.out _ (by first | exact hy1)).mono ?_; rintro e w2 ⟨rfl, hx2⟩; have hy2 := Ext.trans (hy1) hx2)
                    | (go_at_call 22; refine (HSO.out _ (by first | exact hy2)).mono ?_; rintro e w3 ⟨rfl, hx3⟩; have hy3 := Ext.trans (hy2) hx3)
                    | (go_at_call 28; refine (HSR.out _ (by first | exact hy3)).mono ?_; rintro e w4 ⟨v4, rfl, hx4, hi4⟩; have hy4 := Ext.trans (hy3) hx4; obtain ⟨a4, c4, rfl, _⟩ := hi4.open; have HI4 := Lib.hid hi4; clear hi4)
                    | (go_at_call 23; refine (HRI.out _ (by first | exact hy4) _ HI4.out).mono ?_; rintro e w5 ⟨rfl, hx5⟩; have hy5 := Ext.trans (hy4) hx5)
                    | (go_at_call 24; refine (HLO.out _ (by first | exact hy5)).mono ?_; rintro e w6 ⟨rfl, hx6⟩; have hy6 := Ext.trans (hy5) hx6))
  go_upto_region 3 with fail
  have hk1 := HB.out _ (hy6.trans ((Ext.refl w6).drew))
  go_region_held3 (fun w' => w'.cell? ⟨w.heap.size, 0, none⟩ = some (.slice la c.loads.length lk) ∧ w'.cell? ⟨w.heap.size, 1, none⟩ = some (.int .i64 c.bears) ∧ w'.cell? ⟨w.heap.size, 2, none⟩ = some (.slice fa c.far.length fk))
    (first | go_keep | exact HB.out _ (by first | exact hy6.trans ((Ext.refl w6).drew) | exact hy15 | exact hy14 | exact hy13 | exact hy12 | exact hy11 | exact hy10 | exact hy9 | exact hy8 | exact hy7 | exact hy5 | exact hy4 | exact hy3 | exact hy2 | exact hy1 | exact (Ext.refl _).drew))
    (first
      | (go_at_call 28; refine (HSR.out _ (by first | exact (hy6.trans ((Ext.refl w6).drew)))).mono ?_; rintro e w7 ⟨v7, rfl, hx7, hi7⟩; have hy7 := Ext.trans ((hy6.trans ((Ext.refl w6).drew))) hx7; obtain ⟨a7, c7, rfl, _⟩ := hi7.open; have HI7 := Lib.hid hi7; clear hi7)
      | (go_at_call 20; refine (HTA.out _ hy7 _ HI7.out).mono ?_; rintro e w8 ⟨nv, d, err, rfl, hx8, hq⟩; have hy8 := hy7.trans hx8; rw [if_neg HOK.out, HBT.out] at hq; obtain ⟨rfl, rfl, hin⟩ := hq; obtain ⟨ta, tk, hnv, _⟩ := hin.open; rw [HTL.out] at hnv; subst hnv; have HIN := Lib.hid hin; clear hin))
  obtain ⟨z0, z1, z2⟩ := HB.out _ hy8
  go_wp2_with (first
    | (go_at_call 22; refine (HST.out _ hy8 _ HIN.out).mono ?_; rintro e w9 ⟨rfl, hx9⟩; have hy9 := hy8.trans hx9; clear z0 z1 z2; obtain ⟨z0, z1, z2⟩ := HB.out _ hy9; have HI9 := Lib.hid (HIN.out.ext hx9))
    | (go_at_call 28; refine (HS10.out _ hy9 _ HI9.out).mono ?_; rintro e w10 ⟨v10, rfl, hx10, hi10⟩; have hy10 := hy9.trans hx10; obtain ⟨a10, c10, rfl, _⟩ := hi10.open; have HI10 := Lib.hid hi10; clear hi10 HS10)
    | (go_at_call 28; refine (HSR.out _ hy10).mono ?_; rintro e w11 ⟨v11, rfl, hx11, hi11⟩; have hy11 := hy10.trans hx11; obtain ⟨a11, c11, rfl, _⟩ := hi11.open; have HI11 := Lib.hid hi11; clear hi11)
    | (go_at_call 26; refine (same_yes _ _ _ _ (HI10.out.ext hx11) HI11.out).mono ?_; rintro e w12 ⟨rfl, hx12⟩; have hy12 := hy11.trans hx12; clear z0 z1 z2; obtain ⟨z0, z1, z2⟩ := HB.out _ hy12; have HI12 := Lib.hid (((HI9.out.ext hx10).ext hx11).ext hx12))
    | (go_at_call 27; refine (HLT.out _ hy12 _ HI12.out).mono ?_; rintro e w13 ⟨rfl, hx13⟩; have hy13 := hy12.trans hx13; clear z0 z1 z2 HLT; obtain ⟨z0, z1, z2⟩ := HB.out _ hy13)
    | (go_at_call 27; refine (HLO2.out _ hy13 _ (HOT.out _ hy13)).mono ?_; rintro e w14 ⟨rfl, hx14⟩; have hy14 := hy13.trans hx14)
    | (go_at_call 29; refine (rbefore_any _ _ _ _ _ (HOT.out _ hy14) ((HI12.out.ext hx13).ext hx14)).mono ?_; rintro e w15 ⟨rfl, hx15⟩; have hy15 := hy14.trans hx15; rw [HBF.out])
    | (go_at_call 11; refine (HL.out _ hy15).mono ?_; rintro e wk ⟨rfl, hxk⟩))
  go_ret
  exact ⟨rfl, (HX0.out.trans hy15).trans hxk⟩

theorem cardShortest_any (v : Value) (c : Roads) (hv : Value) (hs : List Int) (w : World) (hR : RoadsAt w v c) (hH : IntsAt w hv hs) (ht : TabOk w) : Calls Tryz.prog 5 #[v, hv] w (TrueP w) := by
  cases h1 : shortB c with
  | false => exact short_e0 v c hv hs w hR hH ht h1
  | true =>
  by_cases h2 : 7 < hs.length
  · exact short_e1 v c hv hs w hR hH ht h1 h2
  have h2' : hs.length ≤ 7 := by omega
  cases h3 : isRoadsB c with
  | false => exact short_e2 v c hv hs w hR hH ht h1 h2' h3
  | true =>
  by_cases h4 : hs.length = 0
  · exact short_e3 v c hv hs w hR hH ht h1 h2' h3 h4
  cases h5 : someB c hs with
  | false => exact short_e4 v c hv hs w hR hH ht h1 h2' h3 h4 h5
  | true =>
  cases h6 : risingB (srt hs) with
  | false => exact short_e5 v c hv hs w hR hH ht h1 h2' h3 h4 h5 h6
  | true =>
  by_cases h7 : c.bears < loadOf c hs
  · exact late0 v c hv hs w hR hH ht h1 h2' h3 h4 h5 h6 h7
  have hbs : badStops c (srt hs) = false := by rw [stops_parts, some_perm (srt_perm hs), h5, h6]; rfl
  rcases tour_first hbs (srt_perm hs).symm with h8 | h8
  · exact late1 v c hv hs w hR hH ht h1 h2' h3 h4 h5 h6 h7 h8
  · exact late2 v c hv hs w hR hH ht h1 h2' h3 h4 h5 h6 h7 h8
end Go.Proofs.YtpheidlocijdkaaGreatDoor
