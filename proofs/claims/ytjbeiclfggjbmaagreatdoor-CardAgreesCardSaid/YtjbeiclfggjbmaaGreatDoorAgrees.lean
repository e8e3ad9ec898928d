/- The law CardAgrees: the walk. -/
import Derived.Test.YtjbeiclfggjbmaaGreatDoorOpened
import Derived.Test.YtjbeiclfggjbmaaGreatDoorTotals
namespace Go.Proofs.YtjbeiclfggjbmaaGreatDoor
open Go.RowKit

theorem spanRes_parts {r : Round} {p : Int × Int} {w : World} {e : Ending} {w' : World} (h : SpanRes r p w e w') : ∃ (q1 q2 err : Int), e = .returned (.tuple #[.agg #[.int .i64 q1, .int .i64 q2], .int .i64 err]) ∧ Ext w w' ∧
    (if isRoundB r = true then (if agreeB r (-1) = true then err = 0 ∧ q1 = p.1 ∧ q2 = p.2 else err = 7 ∧ q1 = 0 ∧ q2 = 0) else err = 2 ∧ q1 = 0 ∧ q2 = 0) := by
  obtain ⟨⟨q1, q2⟩, err, rfl, hx, hq⟩ := h
  refine ⟨q1, q2, err, rfl, hx, ?_⟩
  split <;> rename_i h1
  · rw [if_pos h1] at hq
    split <;> rename_i h2
    · rw [if_pos h2] at hq; obtain ⟨h3, h4⟩ := hq; exact ⟨h3, congrArg Prod.fst h4, congrArg Prod.snd h4⟩
    · rw [if_neg h2] at hq; simpa using hq
  · rw [if_neg h1] at hq; simpa using hq
theorem agree_parts {r : Round} {w : World} {e : Ending} {w' : World} (hh : AgreeRes r w e w') : ∃ (err : Int) (b : Bool), e = .returned (.tuple #[.bool b, .int .i64 err]) ∧ Ext w w' ∧ (if isRoundB r = true then err = 0 ∧ b = agreeB r (-1) else err = 2 ∧ b = false) := by
  obtain ⟨b, err, rfl, hx, hq⟩ := hh
  refine ⟨err, b, rfl, hx, ?_⟩
  by_cases h1 : isRoundB r = true
  · rw [if_pos h1] at hq ⊢
    refine ⟨hq.1, ?_⟩
    rw [Bool.eq_iff_iff, hq.2, agreeB_iff (roundB_of h1)]
  · rw [if_neg h1] at hq ⊢
    exact ⟨hq.2, hq.1⟩
set_option maxRecDepth 100000 in
set_option maxHeartbeats 8000000 in
theorem cardAgrees_any (v : Value) (r : Round) (w : World) (hr : RoundAt w v r) (ht : TabOk w) : Calls Tryz.prog 14 #[v] w (TrueP w) := by
  obtain ⟨hv, rfl, hh⟩ := hr
  have hr' : RoundAt w (.agg (r.cells hv).toArray) r := ⟨hv, rfl, hh⟩
  obtain ⟨a, c, rfl, h1, h2, _⟩ := hh.open
  have hx0 : Ext w (w.alloc (boxD r a c)) := (Ext.refl w).alloc _
  have HX0 := Lib.hid hx0
  have HSL := Lib.hid (fun w1 (hx : Ext (w.alloc (boxD r a c)) w1) => slim_any _ r w1 (hr'.ext (hx0.trans hx)))
  have HGR := Lib.hid (fun w1 (hx : Ext (w.alloc (boxD r a c)) w1) => (agree_any _ r w1 (hr'.ext (hx0.trans hx))).mono (fun _ _ h => agree_parts h))
  have HTO := Lib.hid (fun w1 (hx : Ext (w.alloc (boxD r a c)) w1) => (total_any _ r w1 (hr'.ext (hx0.trans hx))).mono (fun _ _ h => spanRes_parts h))
  have HBU := Lib.hid (fun w1 (hx : Ext (w.alloc (boxD r a c)) w1) => (buttonsSpan_any _ r w1 (hr'.ext (hx0.trans hx))).mono (fun _ _ h => spanRes_parts h))
  have HRR := Lib.hid (fun w1 (hx : Ext (w.alloc (boxD r a c)) w1) => rround_any _ r w1 (hr'.ext (hx0.trans hx)))
  have HAG := Lib.hid (fun (hB : RoundB r) w1 (hx : Ext (w.alloc (boxD r a c)) w1) => ragree_any _ r (-1) w1 (hr'.ext (hx0.trans hx)) hB)
  have HRT := Lib.hid (fun (hB : RoundB r) (ha : agreeB r (-1) = true) w1 (hx : Ext (w.alloc (boxD r a c)) w1) => (rtotal_any _ r w1 (hr'.ext (hx0.trans hx)) hB ha).mono (R' := fun e w' => e = .returned (.agg #[.int .i64 (totalL r).1, .int .i64 (totalL r).2]) ∧ Ext w1 w') (fun _ _ h => h))
  have HRB := Lib.hid (fun (hB : RoundB r) (ha : agreeB r (-1) = true) w1 (hx : Ext (w.alloc (boxD r a c)) w1) => (rbuttons_any _ r w1 (hr'.ext (hx0.trans hx)) hB ha).mono (R' := fun e w' => e = .returned (.agg #[.int .i64 (weightL r).1, .int .i64 (weightL r).2]) ∧ Ext w1 w') (fun _ _ h => h))
  have HL := Lib.hid (fun w1 (hx : Ext (w.alloc (boxD r a c)) w1) => lknown_any w1 (ht.ext (hx0.trans hx)))
  have HB := Lib.hid (fun w1 (hx : Ext (w.alloc (boxD r a c)) w1) => round_cells ((hx.block (by simp)).trans (World.alloc_heap_new w (boxD r a c))))
  have hse := span_eql
  have hsg := span_guard
  have hmix : Tryz.prog.follows .mixedOrders = true := by kernel_rfl
  unfold Round.cells at *
  clear hr' hh hx0 ht
  cases hs : slimB r with
  | false =>
    rw [hs] at HSL
    clear hs
    go_enter Tryz.func14, Tryz.ntmps14
    go_wp2_with (first
      | (go_at_call 24; refine (HSL.out _ (Ext.refl _)).mono ?_; rintro e w1 ⟨rfl, hx1⟩; obtain ⟨z0, z1, z2, z3, z4, z5, z6, z7⟩ := HB.out _ hx1)
      | (go_at_call 25; refine (HL.out _ hx1).mono ?_; rintro e w2 ⟨rfl, hx2⟩))
    go_ret
    exact ⟨rfl, (HX0.out.trans hx1).trans hx2⟩
  | true =>
    rw [hs] at HSL
    clear hs
    cases hb : isRoundB r with
    | false =>
      rw [hb] at HRR
      have HBF := Lib.hid hb
      clear hb
      go_enter Tryz.func14, Tryz.ntmps14
      go_wp2_with (first
        | (go_at_call 24; refine (HSL.out _ (Ext.refl _)).mono ?_; rintro e w1 ⟨rfl, hx1⟩; obtain ⟨z0, z1, z2, z3, z4, z5, z6, z7⟩ := HB.out _ hx1)
        | (go_at_call 66; refine (HGR.out _ hx1).mono ?_; rintro e w2 ⟨err2, b2, rfl, hx2, hq2⟩; rw [if_neg (by rw [HBF.out]; simp)] at hq2; obtain ⟨rfl, rfl⟩ := hq2; have hx12 := hx1.trans hx2; clear z0 z1 z2 z3 z4 z5 z6 z7; obtain ⟨z0, z1, z2, z3, z4, z5, z6, z7⟩ := HB.out _ hx12)
        | (go_at_call 67; refine (HTO.out _ hx12).mono ?_; rintro e w3 ⟨q1, q2, err3, rfl, hx3, hq3⟩; rw [if_neg (by rw [HBF.out]; simp)] at hq3; obtain ⟨rfl, rfl, rfl⟩ := hq3; have hx13 := (hx12.trans hx3).alloc (.cells #[.int .i64 0, .int .i64 0] 23); have HSP3 := Lib.hid (fun W (h : Ext (w3.alloc (.cells #[.int .i64 0, .int .i64 0] 23)) W) => (box2 ((h.block (by simp)).trans (World.alloc_heap_new w3 (.cells #[.int .i64 0, .int .i64 0] 23))) (.int .i64 0)).1); clear z0 z1 z2 z3 z4 z5 z6 z7; obtain ⟨z0, z1, z2, z3, z4, z5, z6, z7⟩ := HB.out _ hx13)
        | (go_at_call 68; refine (HBU.out _ hx13).mono ?_; rintro e w4 ⟨q1, q2, err4, rfl, hx4, hq4⟩; rw [if_neg (by rw [HBF.out]; simp)] at hq4; obtain ⟨rfl, rfl, rfl⟩ := hq4; have hx14 := (hx13.trans hx4).alloc (.cells #[.int .i64 0, .int .i64 0] 23); have HSP4 := Lib.hid (fun W (h : Ext (w4.alloc (.cells #[.int .i64 0, .int .i64 0] 23)) W) => (box2 ((h.block (by simp)).trans (World.alloc_heap_new w4 (.cells #[.int .i64 0, .int .i64 0] 23))) (.int .i64 0)).1); clear z0 z1 z2 z3 z4 z5 z6 z7; obtain ⟨z0, z1, z2, z3, z4, z5, z6, z7⟩ := HB.out _ hx14)
        | (go_at_call 27; refine (HRR.out _ hx14).mono ?_; rintro e w5 ⟨rfl, hx5⟩; have hx15 := hx14.trans hx5; have hxs5 := hx5; have hxt5 := (hx4.alloc (.cells #[.int .i64 0, .int .i64 0] 23)).trans hx5; clear z0 z1 z2 z3 z4 z5 z6 z7; obtain ⟨z0, z1, z2, z3, z4, z5, z6, z7⟩ := HB.out _ hx15; obtain ⟨s0, s1⟩ := HSP3.out _ hxt5; obtain ⟨s2, s3⟩ := HSP4.out _ hxs5)
        | (go_at_call 25; refine (HL.out _ hx15).mono ?_; rintro e w7 ⟨rfl, hx7⟩))
      go_ret
      exact ⟨rfl, (HX0.out.trans hx15).trans hx7⟩
    | true =>
      have hB := roundB_of hb
      rw [hb] at HRR
      have HBF := Lib.hid hb
      clear hb
      cases ha : agreeB r (-1) with
      | false =>
        have HA := Lib.hid ha
        clear ha
        go_enter Tryz.func14, Tryz.ntmps14
        go_wp2_with (first
          | (go_at_call 24; refine (HSL.out _ (Ext.refl _)).mono ?_; rintro e w1 ⟨rfl, hx1⟩; obtain ⟨z0, z1, z2, z3, z4, z5, z6, z7⟩ := HB.out _ hx1)
          | (go_at_call 66; refine (HGR.out _ hx1).mono ?_; rintro e w2 ⟨err2, b2, rfl, hx2, hq2⟩; rw [if_pos HBF.out, HA.out] at hq2; obtain ⟨rfl, rfl⟩ := hq2; have hx12 := hx1.trans hx2; clear z0 z1 z2 z3 z4 z5 z6 z7; obtain ⟨z0, z1, z2, z3, z4, z5, z6, z7⟩ := HB.out _ hx12)
          | (go_at_call 67; refine (HTO.out _ hx12).mono ?_; rintro e w3 ⟨q1, q2, err3, rfl, hx3, hq3⟩; rw [if_pos HBF.out, if_neg (by rw [HA.out]; simp)] at hq3; obtain ⟨rfl, rfl, rfl⟩ := hq3; have hx13 := (hx12.trans hx3).alloc (.cells #[.int .i64 0, .int .i64 0] 23); have HSP3 := Lib.hid (fun W (h : Ext (w3.alloc (.cells #[.int .i64 0, .int .i64 0] 23)) W) => (box2 ((h.block (by simp)).trans (World.alloc_heap_new w3 (.cells #[.int .i64 0, .int .i64 0] 23))) (.int .i64 0)).1); clear z0 z1 z2 z3 z4 z5 z6 z7; obtain ⟨z0, z1, z2, z3, z4, z5, z6, z7⟩ := HB.out _ hx13)
          | (go_at_call 68; refine (HBU.out _ hx13).mono ?_; rintro e w4 ⟨q1, q2, err4, rfl, hx4, hq4⟩; rw [if_pos HBF.out, if_neg (by rw [HA.out]; simp)] at hq4; obtain ⟨rfl, rfl, rfl⟩ := hq4; have hx14 := (hx13.trans hx4).alloc (.cells #[.int .i64 0, .int .i64 0] 23); have HSP4 := Lib.hid (fun W (h : Ext (w4.alloc (.cells #[.int .i64 0, .int .i64 0] 23)) W) => (box2 ((h.block (by simp)).trans (World.alloc_heap_new w4 (.cells #[.int .i64 0, .int .i64 0] 23))) (.int .i64 0)).1); clear z0 z1 z2 z3 z4 z5 z6 z7; obtain ⟨z0, z1, z2, z3, z4, z5, z6, z7⟩ := HB.out _ hx14)
          | (go_at_call 27; refine (HRR.out _ hx14).mono ?_; rintro e w5 ⟨rfl, hx5⟩; have hx15 := hx14.trans hx5; have hxs5 := hx5; have hxt5 := (hx4.alloc (.cells #[.int .i64 0, .int .i64 0] 23)).trans hx5; clear z0 z1 z2 z3 z4 z5 z6 z7; obtain ⟨z0, z1, z2, z3, z4, z5, z6, z7⟩ := HB.out _ hx15; obtain ⟨s0, s1⟩ := HSP3.out _ hxt5; obtain ⟨s2, s3⟩ := HSP4.out _ hxs5)
          | (go_at_call 28; refine (HAG.out hB _ hx15).mono ?_; rw [HA.out]; rintro e w6 ⟨rfl, hx6⟩; have hx16 := hx15.trans hx6; have hxs6 := hxs5.trans hx6; have hxt6 := hxt5.trans hx6; clear s0 s1 s2 s3; clear z0 z1 z2 z3 z4 z5 z6 z7; obtain ⟨z0, z1, z2, z3, z4, z5, z6, z7⟩ := HB.out _ hx16; obtain ⟨s0, s1⟩ := HSP3.out _ hxt6; obtain ⟨s2, s3⟩ := HSP4.out _ hxs6)
          | (go_at_call 25; refine (HL.out _ hx16).mono ?_; rintro e w7 ⟨rfl, hx7⟩))
        go_ret
        exact ⟨rfl, (HX0.out.trans hx16).trans hx7⟩
      | true =>
        have HA := Lib.hid ha
        clear ha
        go_enter Tryz.func14, Tryz.ntmps14
        go_upto_region 12 with (first
          | (go_at_call 24; refine (HSL.out _ (Ext.refl _)).mono ?_; rintro e w1 ⟨rfl, hx1⟩; obtain ⟨z0, z1, z2, z3, z4, z5, z6, z7⟩ := HB.out _ hx1)
          | (go_at_call 66; refine (HGR.out _ hx1).mono ?_; rintro e w2 ⟨err2, b2, rfl, hx2, hq2⟩; rw [if_pos HBF.out, HA.out] at hq2; obtain ⟨rfl, rfl⟩ := hq2; have hx12 := hx1.trans hx2; clear z0 z1 z2 z3 z4 z5 z6 z7; obtain ⟨z0, z1, z2, z3, z4, z5, z6, z7⟩ := HB.out _ hx12)
          | (go_at_call 67; refine (HTO.out _ hx12).mono ?_; rintro e w3 ⟨q1, q2, err3, rfl, hx3, hq3⟩; rw [if_pos HBF.out, if_pos HA.out] at hq3; obtain ⟨rfl, rfl, rfl⟩ := hq3; have hx13 := (hx12.trans hx3).alloc (.cells #[.int .i64 (totalL r).1, .int .i64 (totalL r).2] 23); have HSP3 := Lib.hid (fun W (h : Ext (w3.alloc (.cells #[.int .i64 (totalL r).1, .int .i64 (totalL r).2] 23)) W) => (box2 ((h.block (by simp)).trans (World.alloc_heap_new w3 (.cells #[.int .i64 (totalL r).1, .int .i64 (totalL r).2] 23))) (.int .i64 0)).1); clear z0 z1 z2 z3 z4 z5 z6 z7; obtain ⟨z0, z1, z2, z3, z4, z5, z6, z7⟩ := HB.out _ hx13)
          | (go_at_call 68; refine (HBU.out _ hx13).mono ?_; rintro e w4 ⟨q1, q2, err4, rfl, hx4, hq4⟩; rw [if_pos HBF.out, if_pos HA.out] at hq4; obtain ⟨rfl, rfl, rfl⟩ := hq4; have hx14 := (hx13.trans hx4).alloc (.cells #[.int .i64 (weightL r).1, .int .i64 (weightL r).2] 23); have HSP4 := Lib.hid (fun W (h : Ext (w4.alloc (.cells #[.int .i64 (weightL r).1, .int .i64 (weightL r).2] 23)) W) => (box2 ((h.block (by simp)).trans (World.alloc_heap_new w4 (.cells #[.int .i64 (weightL r).1, .int .i64 (weightL r).2] 23))) (.int .i64 0)).1); clear z0 z1 z2 z3 z4 z5 z6 z7; obtain ⟨z0, z1, z2, z3, z4, z5, z6, z7⟩ := HB.out _ hx14)
          | (go_at_call 27; refine (HRR.out _ hx14).mono ?_; rintro e w5 ⟨rfl, hx5⟩; have hx15 := hx14.trans hx5; have hxs5 := hx5; have hxt5 := (hx4.alloc (.cells #[.int .i64 (weightL r).1, .int .i64 (weightL r).2] 23)).trans hx5; clear z0 z1 z2 z3 z4 z5 z6 z7; obtain ⟨z0, z1, z2, z3, z4, z5, z6, z7⟩ := HB.out _ hx15; obtain ⟨s0, s1⟩ := HSP3.out _ hxt5; obtain ⟨s2, s3⟩ := HSP4.out _ hxs5)
          | (go_at_call 28; refine (HAG.out hB _ hx15).mono ?_; rw [HA.out]; rintro e w6 ⟨rfl, hx6⟩; have hx16 := hx15.trans hx6; have hxs6 := hxs5.trans hx6; have hxt6 := hxt5.trans hx6; clear s0 s1 s2 s3; clear z0 z1 z2 z3 z4 z5 z6 z7; obtain ⟨z0, z1, z2, z3, z4, z5, z6, z7⟩ := HB.out _ hx16; obtain ⟨s0, s1⟩ := HSP3.out _ hxt6; obtain ⟨s2, s3⟩ := HSP4.out _ hxs6))
        have hX6 : Ext w6 w6 := Ext.refl _
        have HS6 := Lib.hid (fun W (h : Ext w6 W) => And.intro (HSP3.out _ (hxt6.trans h)).1 (And.intro (HSP3.out _ (hxt6.trans h)).2 (And.intro (HSP4.out _ (hxs6.trans h)).1 (And.intro (HSP4.out _ (hxs6.trans h)).2 (HB.out _ (hx16.trans h))))))
        go_region_held3 (fun w' => w'.cell? ⟨w3.heap.size, 0, none⟩ = some (.int .i64 (totalL r).1) ∧ w'.cell? ⟨w3.heap.size, 1, none⟩ = some (.int .i64 (totalL r).2) ∧ w'.cell? ⟨w4.heap.size, 0, none⟩ = some (.int .i64 (weightL r).1) ∧ w'.cell? ⟨w4.heap.size, 1, none⟩ = some (.int .i64 (weightL r).2) ∧ w'.cell? ⟨w.heap.size, 0, none⟩ = some (.int .i64 r.per) ∧ w'.cell? ⟨w.heap.size, 1, none⟩ = some (.int .i64 r.lo) ∧ w'.cell? ⟨w.heap.size, 2, none⟩ = some (.int .i64 r.hi) ∧ w'.cell? ⟨w.heap.size, 3, none⟩ = some (.int .i64 r.card) ∧ w'.cell? ⟨w.heap.size, 4, none⟩ = some (.int .i64 r.slack) ∧ w'.cell? ⟨w.heap.size, 5, none⟩ = some (.slice a r.houses.length c) ∧ w'.cell? ⟨w.heap.size, 6, none⟩ = some (.int .i64 r.all) ∧ w'.cell? ⟨w.heap.size, 7, none⟩ = some (.int .i64 r.off))
          (first | exact HS6.out _ hY3 | exact HS6.out _ hY2 | exact HS6.out _ hY1 | exact HS6.out _ hX6.drew)
          (first
            | (go_at_call 69; refine (HRT.out hB HA.out _ (hx16.trans hX6.drew)).mono ?_; rintro e w7 ⟨rfl, hx7⟩; have hY1 : Ext w6 w7 := hX6.drew.trans hx7)
            | (go_at_call 70; refine (HRB.out hB HA.out _ (hx16.trans hY1)).mono ?_; rintro e w8 ⟨rfl, hx8⟩; have hY2 : Ext w6 w8 := hY1.trans hx8)
            | (go_at_call 25; refine (HL.out _ (hx16.trans hY2)).mono ?_; rintro e w9 ⟨rfl, hx9⟩; have hY3 : Ext w6 w9 := hY2.trans hx9))
        go_wp2
        go_ret
        exact ⟨rfl, (HX0.out.trans hx16).trans hY3⟩
end Go.Proofs.YtjbeiclfggjbmaaGreatDoor
