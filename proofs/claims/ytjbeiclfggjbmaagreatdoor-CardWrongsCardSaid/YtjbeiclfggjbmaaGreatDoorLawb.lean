/- The law CardWrongs: the walk. -/
import Derived.Test.YtjbeiclfggjbmaaGreatDoorOpened
namespace Go.Proofs.YtjbeiclfggjbmaaGreatDoor
open Go.RowKit

theorem rnumber_any (v : Value) (r : Round) (n : Int) (w : World) (hr : RoundAt w v r) :
    Calls Tryz.prog 35 #[v, .int .i64 n] w fun e w' => e = .returned (.bool (inB n 0 (r.houses.length - 1))) ∧ Ext w w' := by
  obtain ⟨hv, rfl, hh⟩ := hr
  obtain ⟨a, c, rfl, h1, h2, _⟩ := hh.open
  have HI := Lib.hid (fun w1 => rin_any n 0 (r.houses.length - 1) w1)
  unfold Round.cells
  clear hh
  go_enter Tryz.func35, Tryz.ntmps35
  go_wp2_with (go_at_call 98; refine (HI.out _).mono ?_; rintro e w' ⟨rfl, rfl⟩)
  go_ret
  exact ⟨rfl, (Ext.refl _).alloc _⟩

/-- What card.Wrong answers, case by case, the slice written out. -/
theorem wrong_cases {r : Round} {w : World} {v : Value} {err : Int}
    (h : if isRoundB r = true then (if agreeB r (-1) = true then err = 7 ∧ v = .slice none 0 0 else if wrongL r = [] then err = 5 ∧ v = .slice none 0 0 else err = 0 ∧ IntsAt w v (wrongL r)) else err = 2 ∧ v = .slice none 0 0) (hb : isRoundB r = true) :
    ∃ (a1 : Option Addr) (n1 c1 : Nat), v = .slice a1 n1 c1 ∧ n1 ≤ c1 ∧ c1 ≤ 9223372036854775807 ∧ ((agreeB r (-1) = true ∧ err = 7 ∧ n1 = 0) ∨ (agreeB r (-1) = false ∧ wrongL r = [] ∧ err = 5 ∧ n1 = 0) ∨ (agreeB r (-1) = false ∧ wrongL r ≠ [] ∧ err = 0 ∧ IntsAt w (.slice a1 n1 c1) (wrongL r))) := by
  rw [if_pos hb] at h
  by_cases ha : agreeB r (-1) = true
  · rw [if_pos ha] at h
    exact ⟨none, 0, 0, h.2, by omega, by omega, .inl ⟨ha, h.1, rfl⟩⟩
  · rw [if_neg ha] at h
    have ha' : agreeB r (-1) = false := by simpa using ha
    by_cases hl : wrongL r = []
    · rw [if_pos hl] at h
      exact ⟨none, 0, 0, h.2, by omega, by omega, .inr (.inl ⟨ha', hl, h.1, rfl⟩)⟩
    · rw [if_neg hl] at h
      obtain ⟨a, c, rfl, h1, h2, _⟩ := h.2.open
      exact ⟨a, _, c, rfl, h1, h2, .inr (.inr ⟨ha', hl, h.1, h.2⟩)⟩

/-- Any world beyond the two boxes: the round's cells, the span's. -/
theorem wrongsMends {r : Round} {house : Int} {w : World} {e : Ending} {w' : World} (h : MendsRes r house w e w') : ∃ (q1 q2 err : Int), e = .returned (.tuple #[.agg #[.int .i64 q1, .int .i64 q2], .int .i64 err]) ∧ Ext w w' ∧
    (if isRoundB r = true ∧ inB house 0 (r.houses.length - 1) = true then (if agreeB r house = true then err = 0 ∧ (q1, q2) = spanOf (houseL r house house.toNat) else err = 7 ∧ q1 = 0 ∧ q2 = 0) else err = 2 ∧ q1 = 0 ∧ q2 = 0) := by
  obtain ⟨⟨q1, q2⟩, err, rfl, hx, hq⟩ := h
  refine ⟨q1, q2, err, rfl, hx, ?_⟩
  split <;> rename_i h1
  · rw [if_pos h1] at hq
    split <;> rename_i h2
    · rw [if_pos h2] at hq; exact hq
    · rw [if_neg h2] at hq; simpa using hq
  · rw [if_neg h1] at hq; simpa using hq

set_option maxRecDepth 100000 in
set_option maxHeartbeats 8000000 in
theorem cardWrongs_any (v : Value) (r : Round) (house : Int) (w : World) (hr : RoundAt w v r) (ht : TabOk w) : Calls Tryz.prog 4 #[v, .int .i64 house] w (TrueP w) := by
  obtain ⟨hv, rfl, hh⟩ := hr
  have hr' : RoundAt w (.agg (r.cells hv).toArray) r := ⟨hv, rfl, hh⟩
  obtain ⟨a, c, rfl, h1, h2, _⟩ := hh.open
  have hx0 : Ext w (w.alloc (boxD r a c)) := (Ext.refl w).alloc _
  have HX0 := Lib.hid hx0
  have HSL := Lib.hid (fun w1 (hx : Ext (w.alloc (boxD r a c)) w1) => slim_any _ r w1 (hr'.ext (hx0.trans hx)))
  have HWR := Lib.hid (fun w1 (hx : Ext (w.alloc (boxD r a c)) w1) => wrong_any _ r w1 (hr'.ext (hx0.trans hx)))
  have HME := Lib.hid (fun w1 (hx : Ext (w.alloc (boxD r a c)) w1) => mends_any _ r house w1 (hr'.ext (hx0.trans hx)))
  have HRR := Lib.hid (fun w1 (hx : Ext (w.alloc (boxD r a c)) w1) => rround_any _ r w1 (hr'.ext (hx0.trans hx)))
  have HAG := Lib.hid (fun (hB : RoundB r) free w1 (hx : Ext (w.alloc (boxD r a c)) w1) => ragree_any _ r free w1 (hr'.ext (hx0.trans hx)) hB)
  have HRW := Lib.hid (fun (hB : RoundB r) w1 (hx : Ext (w.alloc (boxD r a c)) w1) => rwrong_any _ r w1 (hr'.ext (hx0.trans hx)) hB)
  have HNB := Lib.hid (fun w1 (hx : Ext (w.alloc (boxD r a c)) w1) => rnumber_any _ r house w1 (hr'.ext (hx0.trans hx)))
  have HRM := Lib.hid (fun (hB : RoundB r) (k : Nat) (hk : k < r.houses.length) (ha : agreeB r k = true) w1 (hx : Ext (w.alloc (boxD r a c)) w1) => (rmends_any _ r k w1 (hr'.ext (hx0.trans hx)) hB hk ha).mono (R' := fun e w' => e = .returned (.agg #[.int .i64 (spanOf (houseL r (k : Int) k)).1, .int .i64 (spanOf (houseL r (k : Int) k)).2]) ∧ Ext w1 w') (fun _ _ h => h))
  have HL := Lib.hid (fun w1 (hx : Ext (w.alloc (boxD r a c)) w1) => lknown_any w1 (ht.ext (hx0.trans hx)))
  have HB := Lib.hid (fun w1 (hx : Ext (w.alloc (boxD r a c)) w1) => round_cells ((hx.block (by simp)).trans (World.alloc_heap_new w (boxD r a c))))
  have hse := span_eql
  have hsg := span_guard
  have hmix : Tryz.prog.follows .mixedOrders = true := by kernel_rfl
  unfold Round.cells at *
  clear hr' hh hx0 ht
  cases hs : slimB r with
  | false =>
    rw [hs] at HSL
    clear hs
    go_enter Tryz.func4, Tryz.ntmps4
    go_wp2_with (first
      | (go_at_call 24; refine (HSL.out _ (Ext.refl _)).mono ?_; rintro e w1 ⟨rfl, hx1⟩; obtain ⟨z0, z1, z2, z3, z4, z5, z6, z7⟩ := HB.out _ hx1)
      | (go_at_call 25; refine (HL.out _ hx1).mono ?_; rintro e w2 ⟨rfl, hx2⟩))
    go_ret
    exact ⟨rfl, (HX0.out.trans hx1).trans hx2⟩
  | true =>
    rw [hs] at HSL
    clear hs
    cases hb : isRoundB r with
    | false =>
      rw [hb] at HRR
      have HBF := Lib.hid hb
      clear hb
      go_enter Tryz.func4, Tryz.ntmps4
      go_wp2_with (first
        | (go_at_call 24; refine (HSL.out _ (Ext.refl _)).mono ?_; rintro e w1 ⟨rfl, hx1⟩; obtain ⟨z0, z1, z2, z3, z4, z5, z6, z7⟩ := HB.out _ hx1)
        | (go_at_call 31; refine (HWR.out _ hx1).mono ?_; rintro e w2 ⟨v2, err2, rfl, hx2, hq2⟩; rw [if_neg (by rw [HBF.out]; simp)] at hq2; obtain ⟨rfl, rfl⟩ := hq2; have hx12 := hx1.trans hx2; clear z0 z1 z2 z3 z4 z5 z6 z7; obtain ⟨z0, z1, z2, z3, z4, z5, z6, z7⟩ := HB.out _ hx12)
        | (go_at_call 32; refine (HME.out _ hx12).mono ?_; intro e w3 hm3; obtain ⟨q1, q2, err3, rfl, hx3, hq3⟩ := wrongsMends hm3; rw [if_neg (by rw [HBF.out]; simp)] at hq3; obtain ⟨rfl, rfl, rfl⟩ := hq3; have hx13 := (hx12.trans hx3).alloc (.cells #[.int .i64 0, .int .i64 0] 23); have HSP := Lib.hid (fun W (h : Ext (w3.alloc (.cells #[.int .i64 0, .int .i64 0] 23)) W) => (box2 ((h.block (by simp)).trans (World.alloc_heap_new w3 (.cells #[.int .i64 0, .int .i64 0] 23))) (.int .i64 0)).1); clear z0 z1 z2 z3 z4 z5 z6 z7; obtain ⟨z0, z1, z2, z3, z4, z5, z6, z7⟩ := HB.out _ hx13)
        | (go_at_call 27; refine (HRR.out _ hx13).mono ?_; rintro e w4 ⟨rfl, hx4⟩; have hx14 := hx13.trans hx4; obtain ⟨s0, s1⟩ := HSP.out _  hx4)
        | (go_at_call 25; refine (HL.out _ hx14).mono ?_; rintro e w5 ⟨rfl, hx5⟩))
      go_ret
      exact ⟨rfl, (HX0.out.trans hx14).trans hx5⟩
    | true =>
      have hB := roundB_of hb
      rw [hb] at HRR
      have HBF := Lib.hid hb
      clear hb
      have key : agreeB r (-1) = true ∨ (agreeB r (-1) = false ∧ wrongL r = []) ∨ (agreeB r (-1) = false ∧ wrongL r ≠ []) := by
        cases h : agreeB r (-1) with
        | true => exact .inl rfl
        | false => by_cases h' : wrongL r = [] <;> simp [h']
      have key2 : inB house 0 (r.houses.length - 1) = false ∨ ∃ k : Nat, house = (k : Int) ∧ k < r.houses.length ∧ inB house 0 (r.houses.length - 1) = true ∧ (agreeB r k = false ∨ agreeB r k = true) := by
        cases h : inB house 0 (r.houses.length - 1) with
        | false => exact .inl rfl
        | true =>
          obtain ⟨i1, i2⟩ := inB_iff.1 h
          obtain ⟨k, rfl⟩ := Int.eq_ofNat_of_zero_le i1
          exact .inr ⟨k, rfl, by omega, rfl, by cases agreeB r k <;> simp⟩
      rcases key with HA | ⟨HA, HW⟩ | ⟨HA, HW⟩
      · replace HA := Lib.hid HA
        rcases key2 with HN | ⟨k, rfl, HKL, HN, HK | HK⟩
        · replace HN := Lib.hid HN
          have tok1 : True := trivial
          go_enter Tryz.func4, Tryz.ntmps4
          go_wp2_with (first
            | (go_at_call 24; refine (HSL.out _ (Ext.refl _)).mono ?_; rintro e w1 ⟨rfl, hx1⟩; obtain ⟨z0, z1, z2, z3, z4, z5, z6, z7⟩ := HB.out _ hx1)
            | (go_at_call 31; refine (HWR.out _ hx1).mono ?_; rintro e w2 ⟨v2, err2, rfl, hx2, hq2⟩; rw [if_pos HBF.out, if_pos HA.out] at hq2; obtain ⟨rfl, rfl⟩ := hq2; have hx12 := hx1.trans hx2; clear z0 z1 z2 z3 z4 z5 z6 z7; obtain ⟨z0, z1, z2, z3, z4, z5, z6, z7⟩ := HB.out _ hx12)
            | (go_at_call 32; refine (HME.out _ hx12).mono ?_; intro e w3 hm3; obtain ⟨q1, q2, err3, rfl, hx3, hq3⟩ := wrongsMends hm3; rw [if_neg (by rw [HN.out]; simp)] at hq3; obtain ⟨rfl, rfl, rfl⟩ := hq3; have hx13 := (hx12.trans hx3).alloc (.cells #[.int .i64 0, .int .i64 0] 23); have HSP := Lib.hid (fun W (h : Ext (w3.alloc (.cells #[.int .i64 0, .int .i64 0] 23)) W) => (box2 ((h.block (by simp)).trans (World.alloc_heap_new w3 (.cells #[.int .i64 0, .int .i64 0] 23))) (.int .i64 0)).1); clear z0 z1 z2 z3 z4 z5 z6 z7; obtain ⟨z0, z1, z2, z3, z4, z5, z6, z7⟩ := HB.out _ hx13)
            | (go_at_call 27; refine (HRR.out _ hx13).mono ?_; rintro e w4 ⟨rfl, hx4⟩; have hx14 := hx13.trans hx4; have hxs4 := hx4; clear z0 z1 z2 z3 z4 z5 z6 z7; obtain ⟨z0, z1, z2, z3, z4, z5, z6, z7⟩ := HB.out _ hx14)
            | (go_at_call 33; refine (HRW.out hB _ hx14).mono ?_; rintro e w5 ⟨v5, rfl, hx5, hi5⟩; obtain ⟨a5, c5, rfl, g5, g5', _⟩ := hi5.open; clear hi5; have hx15 := hx14.trans hx5; have hxs5 := hxs4.trans hx5; clear z0 z1 z2 z3 z4 z5 z6 z7; obtain ⟨z0, z1, z2, z3, z4, z5, z6, z7⟩ := HB.out _ hx15)
            | (go_at_call 28; have _t := tok1; refine (HAG.out hB (-1) _ hx15).mono ?_; rw [HA.out]; rintro e w6 ⟨rfl, hx6⟩; have hx16 := hx15.trans hx6; have hxs6 := hxs5.trans hx6; clear tok1 _t; clear z0 z1 z2 z3 z4 z5 z6 z7; obtain ⟨z0, z1, z2, z3, z4, z5, z6, z7⟩ := HB.out _ hx16)
            | (go_at_call 35; refine (HNB.out _ hx16).mono ?_; rw [HN.out]; rintro e w8 ⟨rfl, hx8⟩; have hx18 := hx16.trans hx8; have hxs8 := hxs6.trans hx8; clear z0 z1 z2 z3 z4 z5 z6 z7; obtain ⟨s0, s1⟩ := HSP.out _ hxs8)
            | (go_at_call 25; refine (HL.out _ hx18).mono ?_; rintro e w12 ⟨rfl, hx12'⟩))
          go_ret
          exact ⟨rfl, (HX0.out.trans hx18).trans hx12'⟩
        · replace HN := Lib.hid HN
          replace HKL := Lib.hid HKL
          replace HK := Lib.hid HK
          have tok1 : True := trivial
          go_enter Tryz.func4, Tryz.ntmps4
          go_wp2_with (first
            | (go_at_call 24; refine (HSL.out _ (Ext.refl _)).mono ?_; rintro e w1 ⟨rfl, hx1⟩; obtain ⟨z0, z1, z2, z3, z4, z5, z6, z7⟩ := HB.out _ hx1)
            | (go_at_call 31; refine (HWR.out _ hx1).mono ?_; rintro e w2 ⟨v2, err2, rfl, hx2, hq2⟩; rw [if_pos HBF.out, if_pos HA.out] at hq2; obtain ⟨rfl, rfl⟩ := hq2; have hx12 := hx1.trans hx2; clear z0 z1 z2 z3 z4 z5 z6 z7; obtain ⟨z0, z1, z2, z3, z4, z5, z6, z7⟩ := HB.out _ hx12)
            | (go_at_call 32; refine (HME.out _ hx12).mono ?_; intro e w3 hm3; obtain ⟨q1, q2, err3, rfl, hx3, hq3⟩ := wrongsMends hm3; rw [if_pos ⟨HBF.out, HN.out⟩, if_neg (by rw [HK.out]; simp)] at hq3; obtain ⟨rfl, rfl, rfl⟩ := hq3; have hx13 := (hx12.trans hx3).alloc (.cells #[.int .i64 0, .int .i64 0] 23); have HSP := Lib.hid (fun W (h : Ext (w3.alloc (.cells #[.int .i64 0, .int .i64 0] 23)) W) => (box2 ((h.block (by simp)).trans (World.alloc_heap_new w3 (.cells #[.int .i64 0, .int .i64 0] 23))) (.int .i64 0)).1); clear z0 z1 z2 z3 z4 z5 z6 z7; obtain ⟨z0, z1, z2, z3, z4, z5, z6, z7⟩ := HB.out _ hx13)
            | (go_at_call 27; refine (HRR.out _ hx13).mono ?_; rintro e w4 ⟨rfl, hx4⟩; have hx14 := hx13.trans hx4; have hxs4 := hx4; clear z0 z1 z2 z3 z4 z5 z6 z7; obtain ⟨z0, z1, z2, z3, z4, z5, z6, z7⟩ := HB.out _ hx14)
            | (go_at_call 33; refine (HRW.out hB _ hx14).mono ?_; rintro e w5 ⟨v5, rfl, hx5, hi5⟩; obtain ⟨a5, c5, rfl, g5, g5', _⟩ := hi5.open; clear hi5; have hx15 := hx14.trans hx5; have hxs5 := hxs4.trans hx5; clear z0 z1 z2 z3 z4 z5 z6 z7; obtain ⟨z0, z1, z2, z3, z4, z5, z6, z7⟩ := HB.out _ hx15)
            | (go_at_call 28; have _t := tok1; refine (HAG.out hB (-1) _ hx15).mono ?_; rw [HA.out]; rintro e w6 ⟨rfl, hx6⟩; have hx16 := hx15.trans hx6; have hxs6 := hxs5.trans hx6; clear tok1 _t; clear z0 z1 z2 z3 z4 z5 z6 z7; obtain ⟨z0, z1, z2, z3, z4, z5, z6, z7⟩ := HB.out _ hx16)
            | (go_at_call 35; refine (HNB.out _ hx16).mono ?_; rw [HN.out]; rintro e w8 ⟨rfl, hx8⟩; have hx18 := hx16.trans hx8; have hxs8 := hxs6.trans hx8; clear z0 z1 z2 z3 z4 z5 z6 z7; obtain ⟨z0, z1, z2, z3, z4, z5, z6, z7⟩ := HB.out _ hx18)
            | (go_at_call 28; refine (HAG.out hB _ _ hx18).mono ?_; rw [HK.out]; rintro e w9 ⟨rfl, hx9⟩; have hx19 := hx18.trans hx9; have hxs9 := hxs8.trans hx9; clear z0 z1 z2 z3 z4 z5 z6 z7; obtain ⟨s0, s1⟩ := HSP.out _ hxs9)
            | (go_at_call 25; refine (HL.out _ hx19).mono ?_; rintro e w12 ⟨rfl, hx12'⟩))
          go_ret
          exact ⟨rfl, (HX0.out.trans hx19).trans hx12'⟩
        · replace HN := Lib.hid HN
          replace HKL := Lib.hid HKL
          replace HK := Lib.hid HK
          have tok1 : True := trivial
          go_enter Tryz.func4, Tryz.ntmps4
          go_upto_region 19 with (first
            | (go_at_call 24; refine (HSL.out _ (Ext.refl _)).mono ?_; rintro e w1 ⟨rfl, hx1⟩; obtain ⟨z0, z1, z2, z3, z4, z5, z6, z7⟩ := HB.out _ hx1)
            | (go_at_call 31; refine (HWR.out _ hx1).mono ?_; rintro e w2 ⟨v2, err2, rfl, hx2, hq2⟩; rw [if_pos HBF.out, if_pos HA.out] at hq2; obtain ⟨rfl, rfl⟩ := hq2; have hx12 := hx1.trans hx2; clear z0 z1 z2 z3 z4 z5 z6 z7; obtain ⟨z0, z1, z2, z3, z4, z5, z6, z7⟩ := HB.out _ hx12)
            | (go_at_call 32; refine (HME.out _ hx12).mono ?_; intro e w3 hm3; obtain ⟨q1, q2, err3, rfl, hx3, hq3⟩ := wrongsMends hm3; rw [if_pos ⟨HBF.out, HN.out⟩, if_pos HK.out] at hq3; obtain ⟨rfl, hsp3⟩ := hq3; rw [Int.toNat_natCast] at hsp3; obtain rfl : q1 = _ := congrArg Prod.fst hsp3; obtain rfl : q2 = _ := congrArg Prod.snd hsp3; clear hsp3; have hx13 := (hx12.trans hx3).alloc (.cells #[.int .i64 (spanOf (houseL r (k : Int) k)).1, .int .i64 (spanOf (houseL r (k : Int) k)).2] 23); have HSP := Lib.hid (fun W (h : Ext (w3.alloc (.cells #[.int .i64 (spanOf (houseL r (k : Int) k)).1, .int .i64 (spanOf (houseL r (k : Int) k)).2] 23)) W) => (box2 ((h.block (by simp)).trans (World.alloc_heap_new w3 (.cells #[.int .i64 (spanOf (houseL r (k : Int) k)).1, .int .i64 (spanOf (houseL r (k : Int) k)).2] 23))) (.int .i64 0)).1); clear z0 z1 z2 z3 z4 z5 z6 z7; obtain ⟨z0, z1, z2, z3, z4, z5, z6, z7⟩ := HB.out _ hx13)
            | (go_at_call 27; refine (HRR.out _ hx13).mono ?_; rintro e w4 ⟨rfl, hx4⟩; have hx14 := hx13.trans hx4; have hxs4 := hx4; clear z0 z1 z2 z3 z4 z5 z6 z7; obtain ⟨z0, z1, z2, z3, z4, z5, z6, z7⟩ := HB.out _ hx14)
            | (go_at_call 33; refine (HRW.out hB _ hx14).mono ?_; rintro e w5 ⟨v5, rfl, hx5, hi5⟩; obtain ⟨a5, c5, rfl, g5, g5', _⟩ := hi5.open; clear hi5; have hx15 := hx14.trans hx5; have hxs5 := hxs4.trans hx5; clear z0 z1 z2 z3 z4 z5 z6 z7; obtain ⟨z0, z1, z2, z3, z4, z5, z6, z7⟩ := HB.out _ hx15)
            | (go_at_call 28; have _t := tok1; refine (HAG.out hB (-1) _ hx15).mono ?_; rw [HA.out]; rintro e w6 ⟨rfl, hx6⟩; have hx16 := hx15.trans hx6; have hxs6 := hxs5.trans hx6; clear tok1 _t; clear z0 z1 z2 z3 z4 z5 z6 z7; obtain ⟨z0, z1, z2, z3, z4, z5, z6, z7⟩ := HB.out _ hx16)
            | (go_at_call 35; refine (HNB.out _ hx16).mono ?_; rw [HN.out]; rintro e w8 ⟨rfl, hx8⟩; have hx18 := hx16.trans hx8; have hxs8 := hxs6.trans hx8; clear z0 z1 z2 z3 z4 z5 z6 z7; obtain ⟨z0, z1, z2, z3, z4, z5, z6, z7⟩ := HB.out _ hx18)
            | (go_at_call 28; refine (HAG.out hB _ _ hx18).mono ?_; rw [HK.out]; rintro e w9 ⟨rfl, hx9⟩; have hx19 := hx18.trans hx9; have hxs9 := hxs8.trans hx9; clear z0 z1 z2 z3 z4 z5 z6 z7; obtain ⟨z0, z1, z2, z3, z4, z5, z6, z7⟩ := HB.out _ hx19; obtain ⟨s0, s1⟩ := HSP.out _ hxs9))
          have hX9 : Ext w9 w9 := Ext.refl _
          have HS9 := Lib.hid (fun W (h : Ext w9 W) => And.intro (HSP.out _ (hxs9.trans h)).1 (And.intro (HSP.out _ (hxs9.trans h)).2 (HB.out _ (hx19.trans h))))
          go_region_held3 (fun w' => w'.cell? ⟨w3.heap.size, 0, none⟩ = some (.int .i64 (spanOf (houseL r (k : Int) k)).1) ∧ w'.cell? ⟨w3.heap.size, 1, none⟩ = some (.int .i64 (spanOf (houseL r (k : Int) k)).2) ∧ w'.cell? ⟨w.heap.size, 0, none⟩ = some (.int .i64 r.per) ∧ w'.cell? ⟨w.heap.size, 1, none⟩ = some (.int .i64 r.lo) ∧ w'.cell? ⟨w.heap.size, 2, none⟩ = some (.int .i64 r.hi) ∧ w'.cell? ⟨w.heap.size, 3, none⟩ = some (.int .i64 r.card) ∧ w'.cell? ⟨w.heap.size, 4, none⟩ = some (.int .i64 r.slack) ∧ w'.cell? ⟨w.heap.size, 5, none⟩ = some (.slice a r.houses.length c) ∧ w'.cell? ⟨w.heap.size, 6, none⟩ = some (.int .i64 r.all) ∧ w'.cell? ⟨w.heap.size, 7, none⟩ = some (.int .i64 r.off)) (first | exact HS9.out _ hY2 | exact HS9.out _ hY1 | exact HS9.out _ hX9.drew)
            (first
              | (go_at_call 36; refine (HRM.out hB k HKL.out HK.out _ (hx19.trans hX9.drew)).mono ?_; rintro e w10 ⟨rfl, hx10⟩; have hY1 : Ext w9 w10 := hX9.drew.trans hx10)
              | (go_at_call 25; refine (HL.out _ (hx19.trans hY1)).mono ?_; rintro e w11 ⟨rfl, hx11⟩; have hY2 : Ext w9 w11 := hY1.trans hx11))
          go_wp2
          go_ret
          exact ⟨rfl, (HX0.out.trans hx19).trans hY2⟩
      · replace HA := Lib.hid HA
        replace HW := Lib.hid HW
        rcases key2 with HN | ⟨k, rfl, HKL, HN, HK | HK⟩
        · replace HN := Lib.hid HN
          have tok1 : True := trivial
          go_enter Tryz.func4, Tryz.ntmps4
          go_wp2_with (first
            | (go_at_call 24; refine (HSL.out _ (Ext.refl _)).mono ?_; rintro e w1 ⟨rfl, hx1⟩; obtain ⟨z0, z1, z2, z3, z4, z5, z6, z7⟩ := HB.out _ hx1)
            | (go_at_call 31; refine (HWR.out _ hx1).mono ?_; rintro e w2 ⟨v2, err2, rfl, hx2, hq2⟩; rw [if_pos HBF.out, if_neg (by rw [HA.out]; simp), if_pos HW.out] at hq2; obtain ⟨rfl, rfl⟩ := hq2; have hx12 := hx1.trans hx2; clear z0 z1 z2 z3 z4 z5 z6 z7; obtain ⟨z0, z1, z2, z3, z4, z5, z6, z7⟩ := HB.out _ hx12)
            | (go_at_call 32; refine (HME.out _ hx12).mono ?_; intro e w3 hm3; obtain ⟨q1, q2, err3, rfl, hx3, hq3⟩ := wrongsMends hm3; rw [if_neg (by rw [HN.out]; simp)] at hq3; obtain ⟨rfl, rfl, rfl⟩ := hq3; have hx13 := (hx12.trans hx3).alloc (.cells #[.int .i64 0, .int .i64 0] 23); have HSP := Lib.hid (fun W (h : Ext (w3.alloc (.cells #[.int .i64 0, .int .i64 0] 23)) W) => (box2 ((h.block (by simp)).trans (World.alloc_heap_new w3 (.cells #[.int .i64 0, .int .i64 0] 23))) (.int .i64 0)).1); clear z0 z1 z2 z3 z4 z5 z6 z7; obtain ⟨z0, z1, z2, z3, z4, z5, z6, z7⟩ := HB.out _ hx13)
            | (go_at_call 27; refine (HRR.out _ hx13).mono ?_; rintro e w4 ⟨rfl, hx4⟩; have hx14 := hx13.trans hx4; have hxs4 := hx4; clear z0 z1 z2 z3 z4 z5 z6 z7; obtain ⟨z0, z1, z2, z3, z4, z5, z6, z7⟩ := HB.out _ hx14)
            | (go_at_call 33; refine (HRW.out hB _ hx14).mono ?_; rintro e w5 ⟨v5, rfl, hx5, hi5⟩; rw [HW.out] at hi5; obtain ⟨a5, c5, rfl, g5, g5', _⟩ := hi5.open; clear hi5; have hx15 := hx14.trans hx5; have hxs5 := hxs4.trans hx5; clear z0 z1 z2 z3 z4 z5 z6 z7; obtain ⟨z0, z1, z2, z3, z4, z5, z6, z7⟩ := HB.out _ hx15)
            | (go_at_call 28; have _t := tok1; refine (HAG.out hB (-1) _ hx15).mono ?_; rw [HA.out]; rintro e w6 ⟨rfl, hx6⟩; have hx16 := hx15.trans hx6; have hxs6 := hxs5.trans hx6; clear tok1 _t; clear z0 z1 z2 z3 z4 z5 z6 z7; obtain ⟨z0, z1, z2, z3, z4, z5, z6, z7⟩ := HB.out _ hx16)
            | (go_at_call 35; refine (HNB.out _ hx16).mono ?_; rw [HN.out]; rintro e w8 ⟨rfl, hx8⟩; have hx18 := hx16.trans hx8; have hxs8 := hxs6.trans hx8; clear z0 z1 z2 z3 z4 z5 z6 z7; obtain ⟨s0, s1⟩ := HSP.out _ hxs8)
            | (go_at_call 25; refine (HL.out _ hx18).mono ?_; rintro e w12 ⟨rfl, hx12'⟩))
          go_ret
          exact ⟨rfl, (HX0.out.trans hx18).trans hx12'⟩
        · replace HN := Lib.hid HN
          replace HKL := Lib.hid HKL
          replace HK := Lib.hid HK
          have tok1 : True := trivial
          go_enter Tryz.func4, Tryz.ntmps4
          go_wp2_with (first
            | (go_at_call 24; refine (HSL.out _ (Ext.refl _)).mono ?_; rintro e w1 ⟨rfl, hx1⟩; obtain ⟨z0, z1, z2, z3, z4, z5, z6, z7⟩ := HB.out _ hx1)
            | (go_at_call 31; refine (HWR.out _ hx1).mono ?_; rintro e w2 ⟨v2, err2, rfl, hx2, hq2⟩; rw [if_pos HBF.out, if_neg (by rw [HA.out]; simp), if_pos HW.out] at hq2; obtain ⟨rfl, rfl⟩ := hq2; have hx12 := hx1.trans hx2; clear z0 z1 z2 z3 z4 z5 z6 z7; obtain ⟨z0, z1, z2, z3, z4, z5, z6, z7⟩ := HB.out _ hx12)
            | (go_at_call 32; refine (HME.out _ hx12).mono ?_; intro e w3 hm3; obtain ⟨q1, q2, err3, rfl, hx3, hq3⟩ := wrongsMends hm3; rw [if_pos ⟨HBF.out, HN.out⟩, if_neg (by rw [HK.out]; simp)] at hq3; obtain ⟨rfl, rfl, rfl⟩ := hq3; have hx13 := (hx12.trans hx3).alloc (.cells #[.int .i64 0, .int .i64 0] 23); have HSP := Lib.hid (fun W (h : Ext (w3.alloc (.cells #[.int .i64 0, .int .i64 0] 23)) W) => (box2 ((h.block (by simp)).trans (World.alloc_heap_new w3 (.cells #[.int .i64 0, .int .i64 0] 23))) (.int .i64 0)).1); clear z0 z1 z2 z3 z4 z5 z6 z7; obtain ⟨z0, z1, z2, z3, z4, z5, z6, z7⟩ := HB.out _ hx13)
            | (go_at_call 27; refine (HRR.out _ hx13).mono ?_; rintro e w4 ⟨rfl, hx4⟩; have hx14 := hx13.trans hx4; have hxs4 := hx4; clear z0 z1 z2 z3 z4 z5 z6 z7; obtain ⟨z0, z1, z2, z3, z4, z5, z6, z7⟩ := HB.out _ hx14)
            | (go_at_call 33; refine (HRW.out hB _ hx14).mono ?_; rintro e w5 ⟨v5, rfl, hx5, hi5⟩; rw [HW.out] at hi5; obtain ⟨a5, c5, rfl, g5, g5', _⟩ := hi5.open; clear hi5; have hx15 := hx14.trans hx5; have hxs5 := hxs4.trans hx5; clear z0 z1 z2 z3 z4 z5 z6 z7; obtain ⟨z0, z1, z2, z3, z4, z5, z6, z7⟩ := HB.out _ hx15)
            | (go_at_call 28; have _t := tok1; refine (HAG.out hB (-1) _ hx15).mono ?_; rw [HA.out]; rintro e w6 ⟨rfl, hx6⟩; have hx16 := hx15.trans hx6; have hxs6 := hxs5.trans hx6; clear tok1 _t; clear z0 z1 z2 z3 z4 z5 z6 z7; obtain ⟨z0, z1, z2, z3, z4, z5, z6, z7⟩ := HB.out _ hx16)
            | (go_at_call 35; refine (HNB.out _ hx16).mono ?_; rw [HN.out]; rintro e w8 ⟨rfl, hx8⟩; have hx18 := hx16.trans hx8; have hxs8 := hxs6.trans hx8; clear z0 z1 z2 z3 z4 z5 z6 z7; obtain ⟨z0, z1, z2, z3, z4, z5, z6, z7⟩ := HB.out _ hx18)
            | (go_at_call 28; refine (HAG.out hB _ _ hx18).mono ?_; rw [HK.out]; rintro e w9 ⟨rfl, hx9⟩; have hx19 := hx18.trans hx9; have hxs9 := hxs8.trans hx9; clear z0 z1 z2 z3 z4 z5 z6 z7; obtain ⟨s0, s1⟩ := HSP.out _ hxs9)
            | (go_at_call 25; refine (HL.out _ hx19).mono ?_; rintro e w12 ⟨rfl, hx12'⟩))
          go_ret
          exact ⟨rfl, (HX0.out.trans hx19).trans hx12'⟩
        · replace HN := Lib.hid HN
          replace HKL := Lib.hid HKL
          replace HK := Lib.hid HK
          have tok1 : True := trivial
          go_enter Tryz.func4, Tryz.ntmps4
          go_upto_region 19 with (first
            | (go_at_call 24; refine (HSL.out _ (Ext.refl _)).mono ?_; rintro e w1 ⟨rfl, hx1⟩; obtain ⟨z0, z1, z2, z3, z4, z5, z6, z7⟩ := HB.out _ hx1)
            | (go_at_call 31; refine (HWR.out _ hx1).mono ?_; rintro e w2 ⟨v2, err2, rfl, hx2, hq2⟩; rw [if_pos HBF.out, if_neg (by rw [HA.out]; simp), if_pos HW.out] at hq2; obtain ⟨rfl, rfl⟩ := hq2; have hx12 := hx1.trans hx2; clear z0 z1 z2 z3 z4 z5 z6 z7; obtain ⟨z0, z1, z2, z3, z4, z5, z6, z7⟩ := HB.out _ hx12)
            | (go_at_call 32; refine (HME.out _ hx12).mono ?_; intro e w3 hm3; obtain ⟨q1, q2, err3, rfl, hx3, hq3⟩ := wrongsMends hm3; rw [if_pos ⟨HBF.out, HN.out⟩, if_pos HK.out] at hq3; obtain ⟨rfl, hsp3⟩ := hq3; rw [Int.toNat_natCast] at hsp3; obtain rfl : q1 = _ := congrArg Prod.fst hsp3; obtain rfl : q2 = _ := congrArg Prod.snd hsp3; clear hsp3; have hx13 := (hx12.trans hx3).alloc (.cells #[.int .i64 (spanOf (houseL r (k : Int) k)).1, .int .i64 (spanOf (houseL r (k : Int) k)).2] 23); have HSP := Lib.hid (fun W (h : Ext (w3.alloc (.cells #[.int .i64 (spanOf (houseL r (k : Int) k)).1, .int .i64 (spanOf (houseL r (k : Int) k)).2] 23)) W) => (box2 ((h.block (by simp)).trans (World.alloc_heap_new w3 (.cells #[.int .i64 (spanOf (houseL r (k : Int) k)).1, .int .i64 (spanOf (houseL r (k : Int) k)).2] 23))) (.int .i64 0)).1); clear z0 z1 z2 z3 z4 z5 z6 z7; obtain ⟨z0, z1, z2, z3, z4, z5, z6, z7⟩ := HB.out _ hx13)
            | (go_at_call 27; refine (HRR.out _ hx13).mono ?_; rintro e w4 ⟨rfl, hx4⟩; have hx14 := hx13.trans hx4; have hxs4 := hx4; clear z0 z1 z2 z3 z4 z5 z6 z7; obtain ⟨z0, z1, z2, z3, z4, z5, z6, z7⟩ := HB.out _ hx14)
            | (go_at_call 33; refine (HRW.out hB _ hx14).mono ?_; rintro e w5 ⟨v5, rfl, hx5, hi5⟩; rw [HW.out] at hi5; obtain ⟨a5, c5, rfl, g5, g5', _⟩ := hi5.open; clear hi5; have hx15 := hx14.trans hx5; have hxs5 := hxs4.trans hx5; clear z0 z1 z2 z3 z4 z5 z6 z7; obtain ⟨z0, z1, z2, z3, z4, z5, z6, z7⟩ := HB.out _ hx15)
            | (go_at_call 28; have _t := tok1; refine (HAG.out hB (-1) _ hx15).mono ?_; rw [HA.out]; rintro e w6 ⟨rfl, hx6⟩; have hx16 := hx15.trans hx6; have hxs6 := hxs5.trans hx6; clear tok1 _t; clear z0 z1 z2 z3 z4 z5 z6 z7; obtain ⟨z0, z1, z2, z3, z4, z5, z6, z7⟩ := HB.out _ hx16)
            | (go_at_call 35; refine (HNB.out _ hx16).mono ?_; rw [HN.out]; rintro e w8 ⟨rfl, hx8⟩; have hx18 := hx16.trans hx8; have hxs8 := hxs6.trans hx8; clear z0 z1 z2 z3 z4 z5 z6 z7; obtain ⟨z0, z1, z2, z3, z4, z5, z6, z7⟩ := HB.out _ hx18)
            | (go_at_call 28; refine (HAG.out hB _ _ hx18).mono ?_; rw [HK.out]; rintro e w9 ⟨rfl, hx9⟩; have hx19 := hx18.trans hx9; have hxs9 := hxs8.trans hx9; clear z0 z1 z2 z3 z4 z5 z6 z7; obtain ⟨z0, z1, z2, z3, z4, z5, z6, z7⟩ := HB.out _ hx19; obtain ⟨s0, s1⟩ := HSP.out _ hxs9))
          have hX9 : Ext w9 w9 := Ext.refl _
          have HS9 := Lib.hid (fun W (h : Ext w9 W) => And.intro (HSP.out _ (hxs9.trans h)).1 (And.intro (HSP.out _ (hxs9.trans h)).2 (HB.out _ (hx19.trans h))))
          go_region_held3 (fun w' => w'.cell? ⟨w3.heap.size, 0, none⟩ = some (.int .i64 (spanOf (houseL r (k : Int) k)).1) ∧ w'.cell? ⟨w3.heap.size, 1, none⟩ = some (.int .i64 (spanOf (houseL r (k : Int) k)).2) ∧ w'.cell? ⟨w.heap.size, 0, none⟩ = some (.int .i64 r.per) ∧ w'.cell? ⟨w.heap.size, 1, none⟩ = some (.int .i64 r.lo) ∧ w'.cell? ⟨w.heap.size, 2, none⟩ = some (.int .i64 r.hi) ∧ w'.cell? ⟨w.heap.size, 3, none⟩ = some (.int .i64 r.card) ∧ w'.cell? ⟨w.heap.size, 4, none⟩ = some (.int .i64 r.slack) ∧ w'.cell? ⟨w.heap.size, 5, none⟩ = some (.slice a r.houses.length c) ∧ w'.cell? ⟨w.heap.size, 6, none⟩ = some (.int .i64 r.all) ∧ w'.cell? ⟨w.heap.size, 7, none⟩ = some (.int .i64 r.off)) (first | exact HS9.out _ hY2 | exact HS9.out _ hY1 | exact HS9.out _ hX9.drew)
            (first
              | (go_at_call 36; refine (HRM.out hB k HKL.out HK.out _ (hx19.trans hX9.drew)).mono ?_; rintro e w10 ⟨rfl, hx10⟩; have hY1 : Ext w9 w10 := hX9.drew.trans hx10)
              | (go_at_call 25; refine (HL.out _ (hx19.trans hY1)).mono ?_; rintro e w11 ⟨rfl, hx11⟩; have hY2 : Ext w9 w11 := hY1.trans hx11))
          go_wp2
          go_ret
          exact ⟨rfl, (HX0.out.trans hx19).trans hY2⟩
      · replace HA := Lib.hid HA
        have wl1 : ((wrongL r).length == 0) = false := by rw [beq_eq_false_iff_ne]; exact fun h => HW (List.length_eq_zero_iff.1 h)
        have wl2 : (((wrongL r).length : Int) == 0) = false := by rw [beq_eq_false_iff_ne]; exact fun h => HW (List.length_eq_zero_iff.1 (by omega))
        replace HW := Lib.hid HW
        rcases key2 with HN | ⟨k, rfl, HKL, HN, HK | HK⟩
        · replace HN := Lib.hid HN
          have tok1 : True := trivial
          go_enter Tryz.func4, Tryz.ntmps4
          go_wp2_with (first
            | (go_at_call 24; refine (HSL.out _ (Ext.refl _)).mono ?_; rintro e w1 ⟨rfl, hx1⟩; obtain ⟨z0, z1, z2, z3, z4, z5, z6, z7⟩ := HB.out _ hx1)
            | (go_at_call 31; refine (HWR.out _ hx1).mono ?_; rintro e w2 ⟨v2, err2, rfl, hx2, hq2⟩; rw [if_pos HBF.out, if_neg (by rw [HA.out]; simp), if_neg HW.out] at hq2; obtain ⟨rfl, hi2⟩ := hq2; obtain ⟨a2, c2, rfl, g2, g2', _⟩ := hi2.open; have HI2 := Lib.hid hi2; clear hi2; have hx12 := hx1.trans hx2; clear z0 z1 z2 z3 z4 z5 z6 z7; obtain ⟨z0, z1, z2, z3, z4, z5, z6, z7⟩ := HB.out _ hx12)
            | (go_at_call 32; refine (HME.out _ hx12).mono ?_; intro e w3 hm3; obtain ⟨q1, q2, err3, rfl, hx3, hq3⟩ := wrongsMends hm3; rw [if_neg (by rw [HN.out]; simp)] at hq3; obtain ⟨rfl, rfl, rfl⟩ := hq3; have hx13 := (hx12.trans hx3).alloc (.cells #[.int .i64 0, .int .i64 0] 23); have HSP := Lib.hid (fun W (h : Ext (w3.alloc (.cells #[.int .i64 0, .int .i64 0] 23)) W) => (box2 ((h.block (by simp)).trans (World.alloc_heap_new w3 (.cells #[.int .i64 0, .int .i64 0] 23))) (.int .i64 0)).1); clear z0 z1 z2 z3 z4 z5 z6 z7; obtain ⟨z0, z1, z2, z3, z4, z5, z6, z7⟩ := HB.out _ hx13)
            | (go_at_call 27; refine (HRR.out _ hx13).mono ?_; rintro e w4 ⟨rfl, hx4⟩; have hx14 := hx13.trans hx4; have hxs4 := hx4; clear z0 z1 z2 z3 z4 z5 z6 z7; obtain ⟨z0, z1, z2, z3, z4, z5, z6, z7⟩ := HB.out _ hx14)
            | (go_at_call 33; refine (HRW.out hB _ hx14).mono ?_; rintro e w5 ⟨v5, rfl, hx5, hi5⟩; obtain ⟨a5, c5, rfl, g5, g5', _⟩ := hi5.open; have HI5 := Lib.hid hi5; clear hi5; have hx15 := hx14.trans hx5; have hxs5 := hxs4.trans hx5; clear z0 z1 z2 z3 z4 z5 z6 z7; obtain ⟨z0, z1, z2, z3, z4, z5, z6, z7⟩ := HB.out _ hx15)
            | (go_at_call 28; have _t := tok1; refine (HAG.out hB (-1) _ hx15).mono ?_; rw [HA.out]; rintro e w6 ⟨rfl, hx6⟩; have hx16 := hx15.trans hx6; have hxs6 := hxs5.trans hx6; clear tok1 _t; clear z0 z1 z2 z3 z4 z5 z6 z7; obtain ⟨z0, z1, z2, z3, z4, z5, z6, z7⟩ := HB.out _ hx16)
            | (go_at_call 34; refine (same_yes _ _ _ _ (HI2.out.ext (((hx3.alloc _).trans hxs6))) (HI5.out.ext hx6)).mono ?_; rintro e w7 ⟨rfl, hx7⟩; have hx17 := hx16.trans hx7; have hxs7 := hxs6.trans hx7; clear z0 z1 z2 z3 z4 z5 z6 z7; obtain ⟨z0, z1, z2, z3, z4, z5, z6, z7⟩ := HB.out _ hx17)
            | (go_at_call 35; refine (HNB.out _ hx17).mono ?_; rw [HN.out]; rintro e w8 ⟨rfl, hx8⟩; have hx18 := hx17.trans hx8; have hxs8 := hxs7.trans hx8; clear z0 z1 z2 z3 z4 z5 z6 z7; obtain ⟨s0, s1⟩ := HSP.out _ hxs8)
            | (go_at_call 25; refine (HL.out _ hx18).mono ?_; rintro e w12 ⟨rfl, hx12'⟩))
          go_ret
          exact ⟨rfl, (HX0.out.trans hx18).trans hx12'⟩
        · replace HN := Lib.hid HN
          replace HKL := Lib.hid HKL
          replace HK := Lib.hid HK
          have tok1 : True := trivial
          go_enter Tryz.func4, Tryz.ntmps4
          go_wp2_with (first
            | (go_at_call 24; refine (HSL.out _ (Ext.refl _)).mono ?_; rintro e w1 ⟨rfl, hx1⟩; obtain ⟨z0, z1, z2, z3, z4, z5, z6, z7⟩ := HB.out _ hx1)
            | (go_at_call 31; refine (HWR.out _ hx1).mono ?_; rintro e w2 ⟨v2, err2, rfl, hx2, hq2⟩; rw [if_pos HBF.out, if_neg (by rw [HA.out]; simp), if_neg HW.out] at hq2; obtain ⟨rfl, hi2⟩ := hq2; obtain ⟨a2, c2, rfl, g2, g2', _⟩ := hi2.open; have HI2 := Lib.hid hi2; clear hi2; have hx12 := hx1.trans hx2; clear z0 z1 z2 z3 z4 z5 z6 z7; obtain ⟨z0, z1, z2, z3, z4, z5, z6, z7⟩ := HB.out _ hx12)
            | (go_at_call 32; refine (HME.out _ hx12).mono ?_; intro e w3 hm3; obtain ⟨q1, q2, err3, rfl, hx3, hq3⟩ := wrongsMends hm3; rw [if_pos ⟨HBF.out, HN.out⟩, if_neg (by rw [HK.out]; simp)] at hq3; obtain ⟨rfl, rfl, rfl⟩ := hq3; have hx13 := (hx12.trans hx3).alloc (.cells #[.int .i64 0, .int .i64 0] 23); have HSP := Lib.hid (fun W (h : Ext (w3.alloc (.cells #[.int .i64 0, .int .i64 0] 23)) W) => (box2 ((h.block (by simp)).trans (World.alloc_heap_new w3 (.cells #[.int .i64 0, .int .i64 0] 23))) (.int .i64 0)).1); clear z0 z1 z2 z3 z4 z5 z6 z7; obtain ⟨z0, z1, z2, z3, z4, z5, z6, z7⟩ := HB.out _ hx13)
            | (go_at_call 27; refine (HRR.out _ hx13).mono ?_; rintro e w4 ⟨rfl, hx4⟩; have hx14 := hx13.trans hx4; have hxs4 := hx4; clear z0 z1 z2 z3 z4 z5 z6 z7; obtain ⟨z0, z1, z2, z3, z4, z5, z6, z7⟩ := HB.out _ hx14)
            | (go_at_call 33; refine (HRW.out hB _ hx14).mono ?_; rintro e w5 ⟨v5, rfl, hx5, hi5⟩; obtain ⟨a5, c5, rfl, g5, g5', _⟩ := hi5.open; have HI5 := Lib.hid hi5; clear hi5; have hx15 := hx14.trans hx5; have hxs5 := hxs4.trans hx5; clear z0 z1 z2 z3 z4 z5 z6 z7; obtain ⟨z0, z1, z2, z3, z4, z5, z6, z7⟩ := HB.out _ hx15)
            | (go_at_call 28; have _t := tok1; refine (HAG.out hB (-1) _ hx15).mono ?_; rw [HA.out]; rintro e w6 ⟨rfl, hx6⟩; have hx16 := hx15.trans hx6; have hxs6 := hxs5.trans hx6; clear tok1 _t; clear z0 z1 z2 z3 z4 z5 z6 z7; obtain ⟨z0, z1, z2, z3, z4, z5, z6, z7⟩ := HB.out _ hx16)
            | (go_at_call 34; refine (same_yes _ _ _ _ (HI2.out.ext (((hx3.alloc _).trans hxs6))) (HI5.out.ext hx6)).mono ?_; rintro e w7 ⟨rfl, hx7⟩; have hx17 := hx16.trans hx7; have hxs7 := hxs6.trans hx7; clear z0 z1 z2 z3 z4 z5 z6 z7; obtain ⟨z0, z1, z2, z3, z4, z5, z6, z7⟩ := HB.out _ hx17)
            | (go_at_call 35; refine (HNB.out _ hx17).mono ?_; rw [HN.out]; rintro e w8 ⟨rfl, hx8⟩; have hx18 := hx17.trans hx8; have hxs8 := hxs7.trans hx8; clear z0 z1 z2 z3 z4 z5 z6 z7; obtain ⟨z0, z1, z2, z3, z4, z5, z6, z7⟩ := HB.out _ hx18)
            | (go_at_call 28; refine (HAG.out hB _ _ hx18).mono ?_; rw [HK.out]; rintro e w9 ⟨rfl, hx9⟩; have hx19 := hx18.trans hx9; have hxs9 := hxs8.trans hx9; clear z0 z1 z2 z3 z4 z5 z6 z7; obtain ⟨s0, s1⟩ := HSP.out _ hxs9)
            | (go_at_call 25; refine (HL.out _ hx19).mono ?_; rintro e w12 ⟨rfl, hx12'⟩))
          go_ret
          exact ⟨rfl, (HX0.out.trans hx19).trans hx12'⟩
        · replace HN := Lib.hid HN
          replace HKL := Lib.hid HKL
          replace HK := Lib.hid HK
          have tok1 : True := trivial
          go_enter Tryz.func4, Tryz.ntmps4
          go_upto_region 19 with (first
            | (go_at_call 24; refine (HSL.out _ (Ext.refl _)).mono ?_; rintro e w1 ⟨rfl, hx1⟩; obtain ⟨z0, z1, z2, z3, z4, z5, z6, z7⟩ := HB.out _ hx1)
            | (go_at_call 31; refine (HWR.out _ hx1).mono ?_; rintro e w2 ⟨v2, err2, rfl, hx2, hq2⟩; rw [if_pos HBF.out, if_neg (by rw [HA.out]; simp), if_neg HW.out] at hq2; obtain ⟨rfl, hi2⟩ := hq2; obtain ⟨a2, c2, rfl, g2, g2', _⟩ := hi2.open; have HI2 := Lib.hid hi2; clear hi2; have hx12 := hx1.trans hx2; clear z0 z1 z2 z3 z4 z5 z6 z7; obtain ⟨z0, z1, z2, z3, z4, z5, z6, z7⟩ := HB.out _ hx12)
            | (go_at_call 32; refine (HME.out _ hx12).mono ?_; intro e w3 hm3; obtain ⟨q1, q2, err3, rfl, hx3, hq3⟩ := wrongsMends hm3; rw [if_pos ⟨HBF.out, HN.out⟩, if_pos HK.out] at hq3; obtain ⟨rfl, hsp3⟩ := hq3; rw [Int.toNat_natCast] at hsp3; obtain rfl : q1 = _ := congrArg Prod.fst hsp3; obtain rfl : q2 = _ := congrArg Prod.snd hsp3; clear hsp3; have hx13 := (hx12.trans hx3).alloc (.cells #[.int .i64 (spanOf (houseL r (k : Int) k)).1, .int .i64 (spanOf (houseL r (k : Int) k)).2] 23); have HSP := Lib.hid (fun W (h : Ext (w3.alloc (.cells #[.int .i64 (spanOf (houseL r (k : Int) k)).1, .int .i64 (spanOf (houseL r (k : Int) k)).2] 23)) W) => (box2 ((h.block (by simp)).trans (World.alloc_heap_new w3 (.cells #[.int .i64 (spanOf (houseL r (k : Int) k)).1, .int .i64 (spanOf (houseL r (k : Int) k)).2] 23))) (.int .i64 0)).1); clear z0 z1 z2 z3 z4 z5 z6 z7; obtain ⟨z0, z1, z2, z3, z4, z5, z6, z7⟩ := HB.out _ hx13)
            | (go_at_call 27; refine (HRR.out _ hx13).mono ?_; rintro e w4 ⟨rfl, hx4⟩; have hx14 := hx13.trans hx4; have hxs4 := hx4; clear z0 z1 z2 z3 z4 z5 z6 z7; obtain ⟨z0, z1, z2, z3, z4, z5, z6, z7⟩ := HB.out _ hx14)
            | (go_at_call 33; refine (HRW.out hB _ hx14).mono ?_; rintro e w5 ⟨v5, rfl, hx5, hi5⟩; obtain ⟨a5, c5, rfl, g5, g5', _⟩ := hi5.open; have HI5 := Lib.hid hi5; clear hi5; have hx15 := hx14.trans hx5; have hxs5 := hxs4.trans hx5; clear z0 z1 z2 z3 z4 z5 z6 z7; obtain ⟨z0, z1, z2, z3, z4, z5, z6, z7⟩ := HB.out _ hx15)
            | (go_at_call 28; have _t := tok1; refine (HAG.out hB (-1) _ hx15).mono ?_; rw [HA.out]; rintro e w6 ⟨rfl, hx6⟩; have hx16 := hx15.trans hx6; have hxs6 := hxs5.trans hx6; clear tok1 _t; clear z0 z1 z2 z3 z4 z5 z6 z7; obtain ⟨z0, z1, z2, z3, z4, z5, z6, z7⟩ := HB.out _ hx16)
            | (go_at_call 34; refine (same_yes _ _ _ _ (HI2.out.ext (((hx3.alloc _).trans hxs6))) (HI5.out.ext hx6)).mono ?_; rintro e w7 ⟨rfl, hx7⟩; have hx17 := hx16.trans hx7; have hxs7 := hxs6.trans hx7; clear z0 z1 z2 z3 z4 z5 z6 z7; obtain ⟨z0, z1, z2, z3, z4, z5, z6, z7⟩ := HB.out _ hx17)
            | (go_at_call 35; refine (HNB.out _ hx17).mono ?_; rw [HN.out]; rintro e w8 ⟨rfl, hx8⟩; have hx18 := hx17.trans hx8; have hxs8 := hxs7.trans hx8; clear z0 z1 z2 z3 z4 z5 z6 z7; obtain ⟨z0, z1, z2, z3, z4, z5, z6, z7⟩ := HB.out _ hx18)
            | (go_at_call 28; refine (HAG.out hB _ _ hx18).mono ?_; rw [HK.out]; rintro e w9 ⟨rfl, hx9⟩; have hx19 := hx18.trans hx9; have hxs9 := hxs8.trans hx9; clear z0 z1 z2 z3 z4 z5 z6 z7; obtain ⟨z0, z1, z2, z3, z4, z5, z6, z7⟩ := HB.out _ hx19; obtain ⟨s0, s1⟩ := HSP.out _ hxs9))
          have hX9 : Ext w9 w9 := Ext.refl _
          have HS9 := Lib.hid (fun W (h : Ext w9 W) => And.intro (HSP.out _ (hxs9.trans h)).1 (And.intro (HSP.out _ (hxs9.trans h)).2 (HB.out _ (hx19.trans h))))
          go_region_held3 (fun w' => w'.cell? ⟨w3.heap.size, 0, none⟩ = some (.int .i64 (spanOf (houseL r (k : Int) k)).1) ∧ w'.cell? ⟨w3.heap.size, 1, none⟩ = some (.int .i64 (spanOf (houseL r (k : Int) k)).2) ∧ w'.cell? ⟨w.heap.size, 0, none⟩ = some (.int .i64 r.per) ∧ w'.cell? ⟨w.heap.size, 1, none⟩ = some (.int .i64 r.lo) ∧ w'.cell? ⟨w.heap.size, 2, none⟩ = some (.int .i64 r.hi) ∧ w'.cell? ⟨w.heap.size, 3, none⟩ = some (.int .i64 r.card) ∧ w'.cell? ⟨w.heap.size, 4, none⟩ = some (.int .i64 r.slack) ∧ w'.cell? ⟨w.heap.size, 5, none⟩ = some (.slice a r.houses.length c) ∧ w'.cell? ⟨w.heap.size, 6, none⟩ = some (.int .i64 r.all) ∧ w'.cell? ⟨w.heap.size, 7, none⟩ = some (.int .i64 r.off)) (first | exact HS9.out _ hY2 | exact HS9.out _ hY1 | exact HS9.out _ hX9.drew)
            (first
              | (go_at_call 36; refine (HRM.out hB k HKL.out HK.out _ (hx19.trans hX9.drew)).mono ?_; rintro e w10 ⟨rfl, hx10⟩; have hY1 : Ext w9 w10 := hX9.drew.trans hx10)
              | (go_at_call 25; refine (HL.out _ (hx19.trans hY1)).mono ?_; rintro e w11 ⟨rfl, hx11⟩; have hY2 : Ext w9 w11 := hY1.trans hx11))
          go_wp2
          go_ret
          exact ⟨rfl, (HX0.out.trans hx19).trans hY2⟩
end Go.Proofs.YtjbeiclfggjbmaaGreatDoor
