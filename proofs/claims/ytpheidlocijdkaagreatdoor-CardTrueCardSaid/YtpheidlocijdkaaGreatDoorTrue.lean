/- The law CardTrue: the walk. -/
import Derived.Test.YtpheidlocijdkaaGreatDoorRunsc
import Derived.Test.YtpheidlocijdkaaGreatDoorBought
namespace Go.Proofs.YtpheidlocijdkaaGreatDoor
open Go.RowKit

abbrev boxS (l h : Int) : Obj := .cells #[.int .i64 l, .int .i64 h] 23
set_option maxRecDepth 100000 in
set_option maxHeartbeats 16000000 in
theorem cardTrue_any (v : Value) (r : Round) (xv : Value) (x : Truth) (w : World) (hr : RoundAt w v r) (hx : TruthAt w xv x) (ht : TabOk w) : Calls Tryz.prog 8 #[v, xv] w (TrueP w) := by
  obtain ⟨hv, rfl, hh⟩ := hr
  have hr' : RoundAt w (.agg (r.cells hv).toArray) r := ⟨hv, rfl, hh⟩
  have hx' := hx
  obtain ⟨fv, lv, rfl, hf, hl⟩ := hx
  obtain ⟨a, c, rfl, h1, h2, h3⟩ := hh.open
  obtain ⟨fa, fc, rfl, f1, f2, f3⟩ := hf.open
  obtain ⟨la, lc, rfl, l1, l2, l3⟩ := hl.open
  have hx0 : Ext w ((w.alloc (boxD r a c)).alloc (boxT x fa la fc lc)) := ((Ext.refl w).alloc _).alloc _
  have HX0 := Lib.hid hx0
  have HSL := Lib.hid (fun w1 (hx : Ext ((w.alloc (boxD r a c)).alloc (boxT x fa la fc lc)) w1) => slim_any _ r w1 (hr'.ext (hx0.trans hx)))
  have HBF := Lib.hid (fun w1 (hx : Ext ((w.alloc (boxD r a c)).alloc (boxT x fa la fc lc)) w1) => brief_any _ x w1 (hx'.ext (hx0.trans hx)))
  have HFT := Lib.hid (fun w1 (hx : Ext ((w.alloc (boxD r a c)).alloc (boxT x fa la fc lc)) w1) => fits_any _ _ r x w1 (hr'.ext (hx0.trans hx)) (hx'.ext (hx0.trans hx)))
  have HRR := Lib.hid (fun w1 (hx : Ext ((w.alloc (boxD r a c)).alloc (boxT x fa la fc lc)) w1) => rround_any _ r w1 (hr'.ext (hx0.trans hx)))
  have HRT := Lib.hid (fun w1 (hx : Ext ((w.alloc (boxD r a c)).alloc (boxT x fa la fc lc)) w1) => rtruth_any _ _ r x w1 (hr'.ext (hx0.trans hx)) (hx'.ext (hx0.trans hx)))
  have HAG0 := Lib.hid (fun w1 (hx : Ext ((w.alloc (boxD r a c)).alloc (boxT x fa la fc lc)) w1) => agree_any _ r w1 (hr'.ext (hx0.trans hx)))
  have HKN0 := Lib.hid (fun w1 (hx : Ext ((w.alloc (boxD r a c)).alloc (boxT x fa la fc lc)) w1) => known_any _ r w1 (hr'.ext (hx0.trans hx)))
  have HTO0 := Lib.hid (fun w1 (hx : Ext ((w.alloc (boxD r a c)).alloc (boxT x fa la fc lc)) w1) => total_any _ r w1 (hr'.ext (hx0.trans hx)))
  have HBU0 := Lib.hid (fun w1 (hx : Ext ((w.alloc (boxD r a c)).alloc (boxT x fa la fc lc)) w1) => buttonsSpan_any _ r w1 (hr'.ext (hx0.trans hx)))
  have HBG := Lib.hid (fun (hn : r.houses.length ≤ 4) i h full loose w1 (hx : Ext ((w.alloc (boxD r a c)).alloc (boxT x fa la fc lc)) w1) (hi : r.houses[i]? = some h) => bought_any _ r i h full loose w1 (hr'.ext (hx0.trans hx)) hi hn)
  have HL := Lib.hid (fun w1 (hx : Ext ((w.alloc (boxD r a c)).alloc (boxT x fa la fc lc)) w1) => lknown_any w1 (ht.ext (hx0.trans hx)))
  have HB := Lib.hid (fun W (h : Ext ((w.alloc (boxD r a c)).alloc (boxT x fa la fc lc)) W) => And.intro (round_cells ((h.block (by simp; omega)).trans (two_new w (boxD r a c) (boxT x fa la fc lc)).1)) (show W.cell? ⟨w.heap.size + 1, 0, none⟩ = some (.int .i64 x.button) ∧ W.cell? ⟨w.heap.size + 1, 1, none⟩ = some (.slice fa x.full.length fc) ∧ W.cell? ⟨w.heap.size + 1, 2, none⟩ = some (.slice la x.loose.length lc) by
    have hb := (h.block (b := w.heap.size + 1) (by simp)).trans (two_new w (boxD r a c) (boxT x fa la fc lc)).2
    simp [World.cell?, hb]))
  have HF3 := Lib.hid f3
  have HL3 := Lib.hid l3
  have hmix : Tryz.prog.follows .mixedOrders = true := by kernel_rfl
  unfold Round.cells at *
  clear hr' hx' hh hx0 ht hf hl h3 f3 l3
  cases hs : slimB r with
  | false =>
    rw [hs] at HSL
    clear hs
    go_enter Tryz.func8, Tryz.ntmps8
    go_wp2_with (first
      | (go_at_call 10; refine (HSL.out _ (Ext.refl _)).mono ?_; rintro e w1 ⟨rfl, hx1⟩; obtain ⟨⟨z0, z1, z2, z3, z4, z5, z6, z7⟩, y0, y1, y2⟩ := HB.out _ hx1)
      | (go_at_call 11; refine (HL.out _ hx1).mono ?_; rintro e wk ⟨rfl, hxk⟩))
    go_ret
    exact ⟨rfl, (HX0.out.trans hx1).trans hxk⟩
  | true =>
    rw [hs] at HSL
    clear hs
    cases hbr : briefB x with
    | false =>
      rw [hbr] at HBF
      clear hbr
      go_enter Tryz.func8, Tryz.ntmps8
      go_wp2_with (first
        | (go_at_call 10; refine (HSL.out _ (Ext.refl _)).mono ?_; rintro e w1 ⟨rfl, hx1⟩; obtain ⟨⟨z0, z1, z2, z3, z4, z5, z6, z7⟩, y0, y1, y2⟩ := HB.out _ hx1)
        | (go_at_call 30; refine (HBF.out _ hx1).mono ?_; rintro e w2 ⟨rfl, hx2⟩; have hx12 := hx1.trans hx2; clear z0 z1 z2 z3 z4 z5 z6 z7 y0 y1 y2; obtain ⟨⟨z0, z1, z2, z3, z4, z5, z6, z7⟩, y0, y1, y2⟩ := HB.out _ hx12)
        | (go_at_call 11; refine (HL.out _ hx12).mono ?_; rintro e wk ⟨rfl, hxk⟩))
      go_ret
      exact ⟨rfl, (HX0.out.trans hx12).trans hxk⟩
    | true =>
      rw [hbr] at HBF
      clear hbr
      cases hb : isRoundB r with
      | false =>
        rw [hb] at HRR
        clear hb
        go_enter Tryz.func8, Tryz.ntmps8
        go_wp2_with (first
          | (go_at_call 10; refine (HSL.out _ (Ext.refl _)).mono ?_; rintro e w1 ⟨rfl, hx1⟩; obtain ⟨⟨z0, z1, z2, z3, z4, z5, z6, z7⟩, y0, y1, y2⟩ := HB.out _ hx1)
          | (go_at_call 30; refine (HBF.out _ hx1).mono ?_; rintro e w2 ⟨rfl, hx2⟩; have hx12 := hx1.trans hx2; clear z0 z1 z2 z3 z4 z5 z6 z7 y0 y1 y2; obtain ⟨⟨z0, z1, z2, z3, z4, z5, z6, z7⟩, y0, y1, y2⟩ := HB.out _ hx12)
          | (go_at_call 13; refine (HRR.out _ hx12).mono ?_; rintro e w3 ⟨rfl, hx3⟩; have hx13 := hx12.trans hx3; clear z0 z1 z2 z3 z4 z5 z6 z7 y0 y1 y2; obtain ⟨⟨z0, z1, z2, z3, z4, z5, z6, z7⟩, y0, y1, y2⟩ := HB.out _ hx13)
          | (go_at_call 11; refine (HL.out _ hx13).mono ?_; rintro e wk ⟨rfl, hxk⟩))
        go_ret
        exact ⟨rfl, (HX0.out.trans hx13).trans hxk⟩
      | true =>
        have hB := roundB_of hb
        have HRB := Lib.hid hB
        rw [hb] at HRR
        cases htr : truthB r x with
        | false =>
          rw [htr] at HRT
          clear hb htr hB
          go_enter Tryz.func8, Tryz.ntmps8
          go_wp2_with (first
            | (go_at_call 10; refine (HSL.out _ (Ext.refl _)).mono ?_; rintro e w1 ⟨rfl, hx1⟩; obtain ⟨⟨z0, z1, z2, z3, z4, z5, z6, z7⟩, y0, y1, y2⟩ := HB.out _ hx1)
            | (go_at_call 30; refine (HBF.out _ hx1).mono ?_; rintro e w2 ⟨rfl, hx2⟩; have hx12 := hx1.trans hx2; clear z0 z1 z2 z3 z4 z5 z6 z7 y0 y1 y2; obtain ⟨⟨z0, z1, z2, z3, z4, z5, z6, z7⟩, y0, y1, y2⟩ := HB.out _ hx12)
            | (go_at_call 13; refine (HRR.out _ hx12).mono ?_; rintro e w3 ⟨rfl, hx3⟩; have hx13 := hx12.trans hx3; clear z0 z1 z2 z3 z4 z5 z6 z7 y0 y1 y2; obtain ⟨⟨z0, z1, z2, z3, z4, z5, z6, z7⟩, y0, y1, y2⟩ := HB.out _ hx13)
            | (go_at_call 31; refine (HRT.out _ hx13).mono ?_; rintro e w4 ⟨rfl, hx4⟩; have hx14 := hx13.trans hx4; clear z0 z1 z2 z3 z4 z5 z6 z7 y0 y1 y2; obtain ⟨⟨z0, z1, z2, z3, z4, z5, z6, z7⟩, y0, y1, y2⟩ := HB.out _ hx14)
            | (go_at_call 11; refine (HL.out _ hx14).mono ?_; rintro e wk ⟨rfl, hxk⟩))
          go_ret
          exact ⟨rfl, (HX0.out.trans hx14).trans hxk⟩
        | true =>
          rw [htr] at HRT
          have HOK : Hid (isRoundB r = true ∧ truthB r x = true) := ⟨hb, htr⟩
          cases hfb : fitsB r x (-1) with
          | false =>
            have HFB := Lib.hid hfb
            clear hfb hb htr hB
            go_enter Tryz.func8, Tryz.ntmps8
            go_wp2_with (first
              | (go_at_call 10; refine (HSL.out _ (Ext.refl _)).mono ?_; rintro e w1 ⟨rfl, hx1⟩; obtain ⟨⟨z0, z1, z2, z3, z4, z5, z6, z7⟩, y0, y1, y2⟩ := HB.out _ hx1)
              | (go_at_call 30; refine (HBF.out _ hx1).mono ?_; rintro e w2 ⟨rfl, hx2⟩; have hx12 := hx1.trans hx2; clear z0 z1 z2 z3 z4 z5 z6 z7 y0 y1 y2; obtain ⟨⟨z0, z1, z2, z3, z4, z5, z6, z7⟩, y0, y1, y2⟩ := HB.out _ hx12)
              | (go_at_call 13; refine (HRR.out _ hx12).mono ?_; rintro e w3 ⟨rfl, hx3⟩; have hx13 := hx12.trans hx3; clear z0 z1 z2 z3 z4 z5 z6 z7 y0 y1 y2; obtain ⟨⟨z0, z1, z2, z3, z4, z5, z6, z7⟩, y0, y1, y2⟩ := HB.out _ hx13)
              | (go_at_call 31; refine (HRT.out _ hx13).mono ?_; rintro e w4 ⟨rfl, hx4⟩; have hx14 := hx13.trans hx4; clear z0 z1 z2 z3 z4 z5 z6 z7 y0 y1 y2; obtain ⟨⟨z0, z1, z2, z3, z4, z5, z6, z7⟩, y0, y1, y2⟩ := HB.out _ hx14)
              | (go_at_call 34; refine (HFT.out _ hx14).mono ?_; rintro e w5 ⟨is, err, rfl, hx5, hq⟩; rw [if_pos HOK.out, HFB.out] at hq; obtain ⟨rfl, rfl⟩ := hq; have hx15 := hx14.trans hx5; clear z0 z1 z2 z3 z4 z5 z6 z7 y0 y1 y2; obtain ⟨⟨z0, z1, z2, z3, z4, z5, z6, z7⟩, y0, y1, y2⟩ := HB.out _ hx15)
              | (go_at_call 11; refine (HL.out _ hx15).mono ?_; rintro e wk ⟨rfl, hxk⟩))
            go_ret
            exact ⟨rfl, (HX0.out.trans hx15).trans hxk⟩
          | true =>
            have HFB := Lib.hid hfb
            have hag := fits_agree hB hfb
            have htr' := htr
            unfold truthB at htr'
            rw [Bool.and_eq_true, decide_eq_true_eq, decide_eq_true_eq] at htr'
            obtain ⟨HLF, HLL⟩ := And.intro (Lib.hid htr'.1) (Lib.hid htr'.2)
            have HAG := Lib.hid (fun w1 (hx : Ext ((w.alloc (boxD r a c)).alloc (boxT x fa la fc lc)) w1) => (HAG0.out w1 hx).mono (R' := fun e w' => e = .returned (.tuple #[.bool true, .int .i64 0]) ∧ Ext w1 w') (by
              intro e w' hm
              obtain ⟨err, b, rfl, hx, hq⟩ := agree_parts hm
              rw [if_pos hb, hag] at hq
              obtain ⟨rfl, rfl⟩ := hq
              exact ⟨rfl, hx⟩))
            have HKN := Lib.hid (fun w1 (hx : Ext ((w.alloc (boxD r a c)).alloc (boxT x fa la fc lc)) w1) => (HKN0.out w1 hx).mono (R' := fun e w' => ∃ (ka : Option Addr) (kc : Nat), e = .returned (.tuple #[.slice ka r.houses.length kc, .int .i64 0]) ∧ Ext w1 w' ∧ r.houses.length ≤ kc ∧ kc ≤ 9223372036854775807 ∧ SpansAt w' (.slice ka r.houses.length kc) (knownL r)) (by
              intro e w' hm
              obtain ⟨v1, err, rfl, hx, hq⟩ := hm
              rw [if_pos hb, if_pos hag] at hq
              obtain ⟨rfl, hq⟩ := hq
              have hq' := hq
              obtain ⟨ka, kc, rfl, k1, k2, _⟩ := hq.open
              rw [knownL_length] at k1 hq' ⊢
              exact ⟨ka, kc, rfl, hx, k1, k2, hq'⟩))
            obtain ⟨⟨tl, htl⟩, ⟨th, hth⟩⟩ := And.intro (⟨_, rfl⟩ : ∃ tl, (totalL r).1 = tl) (⟨_, rfl⟩ : ∃ th, (totalL r).2 = th)
            obtain ⟨⟨bl, hbl⟩, ⟨bh, hbh⟩⟩ := And.intro (⟨_, rfl⟩ : ∃ bl, (weightL r).1 = bl) (⟨_, rfl⟩ : ∃ bh, (weightL r).2 = bh)
            have HTO := Lib.hid (fun w1 (hx : Ext ((w.alloc (boxD r a c)).alloc (boxT x fa la fc lc)) w1) => (HTO0.out w1 hx).mono (R' := fun e w' => e = .returned (.tuple #[.agg #[.int .i64 tl, .int .i64 th], .int .i64 0]) ∧ Ext w1 w') (by
              intro e w' hm
              obtain ⟨q1, q2, err, rfl, hx, hq⟩ := spanRes_parts hm
              rw [if_pos hb, if_pos hag, htl, hth] at hq
              obtain ⟨rfl, rfl, rfl⟩ := hq
              exact ⟨rfl, hx⟩))
            have HBU := Lib.hid (fun w1 (hx : Ext ((w.alloc (boxD r a c)).alloc (boxT x fa la fc lc)) w1) => (HBU0.out w1 hx).mono (R' := fun e w' => e = .returned (.tuple #[.agg #[.int .i64 bl, .int .i64 bh], .int .i64 0]) ∧ Ext w1 w') (by
              intro e w' hm
              obtain ⟨q1, q2, err, rfl, hx, hq⟩ := spanRes_parts hm
              rw [if_pos hb, if_pos hag, hbl, hbh] at hq
              obtain ⟨rfl, rfl, rfl⟩ := hq
              exact ⟨rfl, hx⟩))
            have hwt := fits_weight hB hfb
            have hal := fits_all hB hfb
            have HOW := Lib.hid (fun i (hi : i < r.houses.length) => fits_house hB hfb hi)
            change (weightL r).1 ≤ _ ∧ _ ≤ (weightL r).2 at hwt
            change (totalL r).1 ≤ _ ∧ _ ≤ (totalL r).2 at hal
            rw [hbl, hbh] at hwt
            rw [htl, hth] at hal
            have HAL := Lib.hid hal
            have t1 : decide (x.button < bl) = false := by simp; omega
            have t2 : decide (bh < x.button) = false := by simp; omega
            have HUPA : Hid (okUp r x (-1) r.houses.length = true) := by
              unfold Hid fitsB at *
              rw [Bool.and_eq_true, Bool.and_eq_true] at hfb
              exact hfb.1.2
            have hn4 := hB.h2
            have p1 := hB.p1
            have p2 := hB.p2
            clear hfb hb htr hB hag htr' htl hth hbl hbh hwt hal HAG0 HKN0 HTO0 HBU0
            go_enter Tryz.func8, Tryz.ntmps8
            go_wp2_with (first
              | (go_at_call 10; refine (HSL.out _ (Ext.refl _)).mono ?_; rintro e w1 ⟨rfl, hx1⟩; obtain ⟨⟨z0, z1, z2, z3, z4, z5, z6, z7⟩, y0, y1, y2⟩ := HB.out _ hx1)
              | (go_at_call 30; refine (HBF.out _ hx1).mono ?_; rintro e w2 ⟨rfl, hx2⟩; have hx12 := hx1.trans hx2; clear z0 z1 z2 z3 z4 z5 z6 z7 y0 y1 y2; obtain ⟨⟨z0, z1, z2, z3, z4, z5, z6, z7⟩, y0, y1, y2⟩ := HB.out _ hx12)
              | (go_at_call 13; refine (HRR.out _ hx12).mono ?_; rintro e w3 ⟨rfl, hx3⟩; have hx13 := hx12.trans hx3; clear z0 z1 z2 z3 z4 z5 z6 z7 y0 y1 y2; obtain ⟨⟨z0, z1, z2, z3, z4, z5, z6, z7⟩, y0, y1, y2⟩ := HB.out _ hx13)
              | (go_at_call 31; refine (HRT.out _ hx13).mono ?_; rintro e w4 ⟨rfl, hx4⟩; have hx14 := hx13.trans hx4; clear z0 z1 z2 z3 z4 z5 z6 z7 y0 y1 y2; obtain ⟨⟨z0, z1, z2, z3, z4, z5, z6, z7⟩, y0, y1, y2⟩ := HB.out _ hx14)
              | (go_at_call 34; refine (HFT.out _ hx14).mono ?_; rintro e w5 ⟨is, err, rfl, hx5, hq⟩; rw [if_pos HOK.out, HFB.out] at hq; obtain ⟨rfl, rfl⟩ := hq; have hx15 := hx14.trans hx5; clear z0 z1 z2 z3 z4 z5 z6 z7 y0 y1 y2; obtain ⟨⟨z0, z1, z2, z3, z4, z5, z6, z7⟩, y0, y1, y2⟩ := HB.out _ hx15)
              | (go_at_call 35; refine (HAG.out _ hx15).mono ?_; rintro e w6 ⟨rfl, hx6⟩; have hx16 := hx15.trans hx6; clear z0 z1 z2 z3 z4 z5 z6 z7 y0 y1 y2; obtain ⟨⟨z0, z1, z2, z3, z4, z5, z6, z7⟩, y0, y1, y2⟩ := HB.out _ hx16)
              | (go_at_call 41; refine (HKN.out _ hx16).mono ?_; rintro e w7 ⟨ka, kc, rfl, hx7, kc1, kc2, hks⟩; have hx17 := hx16.trans hx7; have HKS := Lib.hid hks; clear hks; clear z0 z1 z2 z3 z4 z5 z6 z7 y0 y1 y2; obtain ⟨⟨z0, z1, z2, z3, z4, z5, z6, z7⟩, y0, y1, y2⟩ := HB.out _ hx17)
              | (go_at_call 42; refine (HTO.out _ hx17).mono ?_; rintro e w8 ⟨rfl, hx8⟩; have hx18 := (hx17.trans hx8).alloc (boxS tl th); have HTB := Lib.hid (fun W (h : Ext (w8.alloc (boxS tl th)) W) => (box2 ((h.block (by simp)).trans (World.alloc_heap_new w8 (boxS tl th))) (.int .i64 0)).1); clear z0 z1 z2 z3 z4 z5 z6 z7 y0 y1 y2; obtain ⟨⟨z0, z1, z2, z3, z4, z5, z6, z7⟩, y0, y1, y2⟩ := HB.out _ hx18)
              | (go_at_call 43; refine (HBU.out _ hx18).mono ?_; rintro e w9 ⟨rfl, hx9⟩; have hx19 := (hx18.trans hx9).alloc (boxS bl bh); have HBB := Lib.hid (fun W (h : Ext (w9.alloc (boxS bl bh)) W) => (box2 ((h.block (by simp)).trans (World.alloc_heap_new w9 (boxS bl bh))) (.int .i64 0)).1); obtain ⟨s0, s1⟩ := HBB.out _ (Ext.refl _); clear z0 z1 z2 z3 z4 z5 z6 z7 y0 y1 y2; obtain ⟨⟨z0, z1, z2, z3, z4, z5, z6, z7⟩, y0, y1, y2⟩ := HB.out _ hx19))
            clear t1 t2 s0 s1 z0 z1 z2 z3 z4 z5 z6 z7 y0 y1 y2
            have HW : Hid ((w9.alloc (boxS bl bh)) = (w9.alloc (boxS bl bh))) := Lib.hid rfl
            have HKB := Lib.hid (((hx8.alloc (boxS tl th)).trans hx9).alloc (boxS bl bh))
            have HTC := Lib.hid (fun W (h : Ext (w9.alloc (boxS bl bh)) W) => HTB.out W ((hx9.alloc (boxS bl bh)).trans h))
            generalize hW : (w9.alloc (boxS bl bh)) = W at *
            go_loopw [15, 16] (fun s i wr => ∃ k : Nat, k ≤ r.houses.length ∧ i = .int .i64 k ∧ s = .int .i64 (sumT r x k) ∧ Ext W wr) (fun _ i _ => r.houses.length - (intOf i).toNat)
            case atStart => exact ⟨0, Nat.zero_le _, rfl, rfl, Ext.refl _⟩
            case round =>
              obtain ⟨k, hk, rfl, rfl, hxr⟩ := hrel
              obtain ⟨⟨z0, z1, z2, z3, z4, z5, z6, z7⟩, y0, y1, y2⟩ := HB.out _ (hx19.trans hxr)
              have hxw := HX0.out.trans (hx19.trans hxr)
              by_cases hlt : k < r.houses.length
              · have hhk : r.houses[k]? = some r.houses[k] := List.getElem?_eq_getElem hlt
                obtain ⟨h, hhe⟩ : ∃ h, r.houses[k] = h := ⟨_, rfl⟩
                rw [hhe] at hhk
                obtain ⟨fb, fo, fk, rfl, hfk, g0⟩ := HF3.out k (by rw [HLF.out]; exact hlt)
                obtain ⟨lb, lo, lk, rfl, hlk, g1⟩ := HL3.out k (by rw [HLL.out]; exact hlt)
                have e0 := hxw.cell g0
                have e1 := hxw.cell g1
                have hgh : r.houses.getD k noHouse = h := by rw [List.getD_eq_getElem?_getD, hhk]; rfl
                have hgf : x.full.getD k 0 = fk := by rw [List.getD_eq_getElem?_getD, hfk.out]; rfl
                have hgl : x.loose.getD k 0 = lk := by rw [List.getD_eq_getElem?_getD, hlk.out]; rfl
                have hok := okUp_at hlt HUPA.out
                have hokb := okT_bd HRB.out hlt hok
                unfold okT at hok
                rw [hgh, hgf, hgl, Bool.and_eq_true] at hok
                have hbt := bought_can hok.1
                have hcan := hok.1
                unfold canB at hcan
                simp only [Bool.and_eq_true, inB_iff] at hcan
                obtain ⟨⟨⟨⟨j1, j2⟩, j3, j4⟩, _⟩, _⟩ := hcan
                have hown := HOW.out k hlt
                have hn3 : nOf r fk lk = fk * r.per + lk := by unfold nOf; rw [Int.mul_comm]
                rw [hgf, hgl, hn3] at hown hokb
                have hsm : sumT r x (k + 1) = sumT r x k + (fk * r.per + lk) := by rw [← hn3, ← hgf, ← hgl]; rfl
                have HSM := Lib.hid hsm
                have hsb := sumT_bd HRB.out (k := k) hk (by
                  unfold okUp; rw [List.all_eq_true]; intro j hj; exact okUp_at (by have := List.mem_range.1 hj; omega) HUPA.out)
                obtain ⟨m1, m2⟩ := hsb
                obtain ⟨m3, m4⟩ := hokb
                have m5 : 0 ≤ fk * r.per := Int.mul_nonneg j1 (by omega)
                have HBT := Lib.hid (fun w1 hx => hbt ▸ HBG.out hn4 k h fk lk w1 hx hhk)
                obtain ⟨sa, sc, hse, s2, s3, s4⟩ := HKS.out.open
                injection hse with hse1 hse2 hse3
                subst hse1
                clear hse2 hse3
                obtain ⟨sb, so, sp, hsa, hsk, q0, q1⟩ := s4 k (by rw [knownL_length]; exact hlt)
                cases hsa
                have hspe : sp = spanOf (houseL r (-1) k) := by
                  have h := hsk.out
                  rw [knownL_at r hlt] at h
                  exact (Option.some.inj h).symm
                rw [← hspe] at hown
                obtain ⟨sl, sh⟩ := sp
                simp only at hown q0 q1
                obtain ⟨o1, o2⟩ := hown
                have r0 := (HKB.out.trans hxr).cell q0
                have r1 := (HKB.out.trans hxr).cell q1
                have x2 : decide ((k : Int) < (r.houses.length : Int)) = true := by simpa using hlt
                have x3 : k < x.full.length := by rw [HLF.out]; exact hlt
                have x4 : (k : Int) < (x.full.length : Int) := by omega
                have x5 : k < x.loose.length := by rw [HLL.out]; exact hlt
                have x6 : (k : Int) < (x.loose.length : Int) := by omega
                have x7 : (0 : Int) ≤ (k : Int) := by omega
                have x8 : (k : Int) < (r.houses.length : Int) := by omega
                have x9 : k * 2 + 1 ≤ 9223372036854775807 := by omega
                have u1 : decide (fk * r.per + lk < sl) = false := by simp; omega
                have u2 : decide (sh < fk * r.per + lk) = false := by simp; omega
                have HS : Hid (∀ W1, Ext wr W1 → W1.cell? ⟨w.heap.size, 0, none⟩ = some (.int .i64 r.per) ∧ W1.cell? ⟨w.heap.size, 1, none⟩ = some (.int .i64 r.lo) ∧ W1.cell? ⟨w.heap.size, 2, none⟩ = some (.int .i64 r.hi) ∧ W1.cell? ⟨w.heap.size, 3, none⟩ = some (.int .i64 r.card) ∧ W1.cell? ⟨w.heap.size, 4, none⟩ = some (.int .i64 r.slack) ∧ W1.cell? ⟨w.heap.size, 5, none⟩ = some (.slice a r.houses.length c) ∧ W1.cell? ⟨w.heap.size, 6, none⟩ = some (.int .i64 r.all) ∧ W1.cell? ⟨w.heap.size, 7, none⟩ = some (.int .i64 r.off) ∧ W1.cell? ⟨w.heap.size + 1, 0, none⟩ = some (.int .i64 x.button) ∧ W1.cell? ⟨w.heap.size + 1, 1, none⟩ = some (.slice (some ⟨fb, fo, none⟩) x.full.length fc) ∧ W1.cell? ⟨w.heap.size + 1, 2, none⟩ = some (.slice (some ⟨lb, lo, none⟩) x.loose.length lc) ∧ W1.cell? ⟨fb, fo + k, none⟩ = some (.int .i64 fk) ∧ W1.cell? ⟨lb, lo + k, none⟩ = some (.int .i64 lk)) := fun W1 h1 => ⟨h1.cell z0, h1.cell z1, h1.cell z2, h1.cell z3, h1.cell z4, h1.cell z5, h1.cell z6, h1.cell z7, h1.cell y0, h1.cell y1, h1.cell y2, h1.cell e0, h1.cell e1⟩
                clear g0 g1 hgh hgf hgl hok hbt hn3 hsm hhk hhe hspe q0 q1 s2 s3 s4
                generalize hss : sumT r x k = ss at *
                have E1 : IntKind.i64.wrap (fk * r.per) = fk * r.per := IntWalk.i64_in _ (by omega)
                have E2 : IntKind.i64.wrap (fk * r.per + lk) = fk * r.per + lk := IntWalk.i64_in _ (by omega)
                have E3 : IntKind.i64.wrap (ss + (fk * r.per + lk)) = ss + (fk * r.per + lk) := IntWalk.i64_in _ (by omega)
                clear hss
                go_upto_region 18 with fail
                go_region_held3 (fun w' => w'.cell? ⟨w.heap.size, 0, none⟩ = some (.int .i64 r.per) ∧ w'.cell? ⟨w.heap.size, 1, none⟩ = some (.int .i64 r.lo) ∧ w'.cell? ⟨w.heap.size, 2, none⟩ = some (.int .i64 r.hi) ∧ w'.cell? ⟨w.heap.size, 3, none⟩ = some (.int .i64 r.card) ∧ w'.cell? ⟨w.heap.size, 4, none⟩ = some (.int .i64 r.slack) ∧ w'.cell? ⟨w.heap.size, 5, none⟩ = some (.slice a r.houses.length c) ∧ w'.cell? ⟨w.heap.size, 6, none⟩ = some (.int .i64 r.all) ∧ w'.cell? ⟨w.heap.size, 7, none⟩ = some (.int .i64 r.off) ∧ w'.cell? ⟨w.heap.size + 1, 0, none⟩ = some (.int .i64 x.button) ∧ w'.cell? ⟨w.heap.size + 1, 1, none⟩ = some (.slice (some ⟨fb, fo, none⟩) x.full.length fc) ∧ w'.cell? ⟨w.heap.size + 1, 2, none⟩ = some (.slice (some ⟨lb, lo, none⟩) x.loose.length lc) ∧ w'.cell? ⟨fb, fo + k, none⟩ = some (.int .i64 fk) ∧ w'.cell? ⟨lb, lo + k, none⟩ = some (.int .i64 lk))
                  (first | go_keep | exact HS.out _ (by repeat (first | exact hy1 | exact Ext.refl _ | apply Ext.drew)))
                  (first
                    | (go_at_call 33; refine (HBT.out _ ((hx19.trans hxr).trans (Ext.refl wr).drew)).mono ?_; rintro e w10 ⟨rfl, hx10⟩; have hy1 : Ext wr w10 := ((Ext.refl wr).drew).trans hx10))
                clear z0 z1 z2 z3 z4 z5 z6 z7 y0 y1 y2 e0 e1
                obtain ⟨z0, z1, z2, z3, z4, z5, z6, z7, y0, y1, y2, e0, e1⟩ := HS.out w10 hy1
                have r0' := hy1.cell r0
                have r1' := hy1.cell r1
                clear r0 r1
                go_upto_region 20 with fail
                go_quiet (fail)
                go_wp2
                go_roundw
                case rel => exact ⟨k + 1, by omega, by go_num, by rw [HSM.out] <;> rfl, hxr.trans (hy1.drewN _)⟩
                case measure => simp [intOf]; omega
              · have hke : k = r.houses.length := by omega
                subst hke
                have x2 : decide ((r.houses.length : Int) < (r.houses.length : Int)) = false := by simp
                obtain ⟨t0, t1⟩ := HTC.out wr hxr
                obtain ⟨a1, a2⟩ := HAL.out
                have u1 : decide (tl ≤ sumT r x r.houses.length) = true := by simpa using a1
                have u2 : decide (sumT r x r.houses.length ≤ th) = true := by simpa using a2
                clear a1 a2
                go_wp2_with (go_at_call 11; refine (HL.out _ (hx19.trans hxr)).mono ?_; rintro e wk ⟨rfl, hxk⟩)
                go_ret
                exact ⟨rfl, hxw.trans hxk⟩
end Go.Proofs.YtpheidlocijdkaaGreatDoor
