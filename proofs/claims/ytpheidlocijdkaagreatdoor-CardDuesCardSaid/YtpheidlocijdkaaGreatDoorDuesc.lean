/- The law CardDues: the walk. -/
import Derived.Test.YtpheidlocijdkaaGreatDoorDuesb
namespace Go.Proofs.YtpheidlocijdkaaGreatDoor
open Go.RowKit

set_option maxRecDepth 100000 in
set_option maxHeartbeats 8000000 in
theorem cardDues_any (v : Value) (r : Round) (rate : Int) (kv : Value) (kept : List Int) (w : World) (hr : RoundAt w v r) (hk : IntsAt w kv kept) (ht : TabOk w) : Calls Tryz.prog 3 #[v, .int .i64 rate, kv] w (TrueP w) := by
  obtain ⟨hv, rfl, hh⟩ := hr
  have hr' : RoundAt w (.agg (r.cells hv).toArray) r := ⟨hv, rfl, hh⟩
  obtain ⟨a, c, rfl, h1, h2, _⟩ := hh.open
  have hk' := hk
  obtain ⟨ka, kc, rfl, k1, k2, _⟩ := hk.open
  have hx0 : Ext w (w.alloc (boxD r a c)) := (Ext.refl w).alloc _
  have HX0 := Lib.hid hx0
  have HSL := Lib.hid (fun w1 (hx : Ext (w.alloc (boxD r a c)) w1) => slim_any _ r w1 (hr'.ext (hx0.trans hx)))
  have HD := Lib.hid (fun w1 (hx : Ext (w.alloc (boxD r a c)) w1) => due_any _ _ r rate kept w1 (hr'.ext (hx0.trans hx)) (hk'.ext (hx0.trans hx)))
  have HRR := Lib.hid (fun w1 (hx : Ext (w.alloc (boxD r a c)) w1) => rround_any _ r w1 (hr'.ext (hx0.trans hx)))
  have HRT := Lib.hid (fun w1 => rrate_any rate w1)
  have HKP := Lib.hid (fun w1 (hx : Ext (w.alloc (boxD r a c)) w1) => rkeeps_any _ _ r kept w1 (hr'.ext (hx0.trans hx)) (hk'.ext (hx0.trans hx)))
  have HAG := Lib.hid (fun (hB : RoundB r) w1 (hx : Ext (w.alloc (boxD r a c)) w1) => ragree_any _ r (-1) w1 (hr'.ext (hx0.trans hx)) hB)
  have HRD := Lib.hid (fun (hB : RoundB r) (ha : agreeB r (-1) = true) (hok : keptOk r rate kept = true) w1 (hx : Ext (w.alloc (boxD r a c)) w1) => rdue_any _ _ r rate kept w1 (hr'.ext (hx0.trans hx)) (hk'.ext (hx0.trans hx)) hB ha hok)
  have HL := Lib.hid (fun w1 (hx : Ext (w.alloc (boxD r a c)) w1) => lknown_any w1 (ht.ext (hx0.trans hx)))
  have HB := Lib.hid (fun w1 (hx : Ext (w.alloc (boxD r a c)) w1) => round_cells ((hx.block (by simp)).trans (World.alloc_heap_new w (boxD r a c))))
  unfold Round.cells at *
  have hX : Ext (w.alloc (boxD r a c)) (w.alloc (boxD r a c)) := Ext.refl _
  clear hr' hh hx0 ht hk hk'
  cases hs : slimB r with
  | false =>
    rw [hs] at HSL
    clear hs
    go_enter Tryz.func3, Tryz.ntmps3
    go_wp2_with (first
      | (go_at_call 10; refine (HSL.out _ (Ext.refl _)).mono ?_; rintro e w1 ⟨rfl, hx1⟩; obtain ⟨z0, z1, z2, z3, z4, z5, z6, z7⟩ := HB.out _ hx1)
      | (go_at_call 11; refine (HL.out _ hx1).mono ?_; rintro e w9 ⟨rfl, hx9⟩))
    go_ret
    exact ⟨rfl, (HX0.out.trans hx1).trans hx9⟩
  | true =>
    rw [hs] at HSL
    clear hs
    by_cases hlong : 7 < kept.length
    · have x1 : decide ((7 : Int) < (kept.length : Int)) = true := by simp; omega
      clear hlong
      go_enter Tryz.func3, Tryz.ntmps3
      go_wp2_with (first
        | (go_at_call 10; refine (HSL.out _ (Ext.refl _)).mono ?_; rintro e w1 ⟨rfl, hx1⟩; obtain ⟨z0, z1, z2, z3, z4, z5, z6, z7⟩ := HB.out _ hx1)
        | (go_at_call 11; refine (HL.out _ hx1).mono ?_; rintro e w9 ⟨rfl, hx9⟩))
      go_ret
      exact ⟨rfl, (HX0.out.trans hx1).trans hx9⟩
    · have x1 : decide ((7 : Int) < (kept.length : Int)) = false := by simp; omega
      clear hlong
      cases hb : isRoundB r with
      | false =>
        rw [hb] at HRR
        have HBF := Lib.hid hb
        clear hb
        go_enter Tryz.func3, Tryz.ntmps3
        go_wp2_with (first
          | (go_at_call 10; refine (HSL.out _ (Ext.refl _)).mono ?_; rintro e w1 ⟨rfl, hx1⟩; obtain ⟨z0, z1, z2, z3, z4, z5, z6, z7⟩ := HB.out _ hx1)
          | (go_at_call 12; refine (HD.out _ hx1).mono ?_; rintro e w2 ⟨v1, err, rfl, hx2, hq⟩; rw [if_neg (by rw [HBF.out]; simp)] at hq; obtain ⟨rfl, rfl⟩ := hq; have hx12 := hx1.trans hx2; clear z0 z1 z2 z3 z4 z5 z6 z7; obtain ⟨z0, z1, z2, z3, z4, z5, z6, z7⟩ := HB.out _ hx12)
          | (go_at_call 13; refine (HRR.out _ hx12).mono ?_; rintro e w3 ⟨rfl, hx3⟩; have hx13 := hx12.trans hx3; clear z0 z1 z2 z3 z4 z5 z6 z7; obtain ⟨z0, z1, z2, z3, z4, z5, z6, z7⟩ := HB.out _ hx13)
          | (go_at_call 11; refine (HL.out _ hx13).mono ?_; rintro e w9 ⟨rfl, hx9⟩))
        go_ret
        exact ⟨rfl, (HX0.out.trans hx13).trans hx9⟩
      | true =>
        have hB := roundB_of hb
        rw [hb] at HRR
        have HBF := Lib.hid hb
        clear hb
        cases q1 : inB rate 0 1000 with
        | false =>
          have HNO : Hid (keptOk r rate kept = false) := by unfold Hid; rw [keptOk_eq, q1]; rfl
          rw [q1] at HRT
          clear q1
          go_enter Tryz.func3, Tryz.ntmps3
          go_wp2_with (first
            | (go_at_call 10; refine (HSL.out _ (Ext.refl _)).mono ?_; rintro e w1 ⟨rfl, hx1⟩; obtain ⟨z0, z1, z2, z3, z4, z5, z6, z7⟩ := HB.out _ hx1)
            | (go_at_call 12; refine (HD.out _ hx1).mono ?_; rintro e w2 ⟨v1, err, rfl, hx2, hq⟩; rw [if_neg (by rw [HNO.out]; simp)] at hq; obtain ⟨rfl, rfl⟩ := hq; have hx12 := hx1.trans hx2; clear z0 z1 z2 z3 z4 z5 z6 z7; obtain ⟨z0, z1, z2, z3, z4, z5, z6, z7⟩ := HB.out _ hx12)
            | (go_at_call 13; refine (HRR.out _ hx12).mono ?_; rintro e w3 ⟨rfl, hx3⟩; have hx13 := hx12.trans hx3; clear z0 z1 z2 z3 z4 z5 z6 z7; obtain ⟨z0, z1, z2, z3, z4, z5, z6, z7⟩ := HB.out _ hx13)
            | (go_at_call 14; refine (HRT.out _).mono ?_; rintro e w' ⟨rfl, rfl⟩)
            | (go_at_call 11; refine (HL.out _ hx13).mono ?_; rintro e w9 ⟨rfl, hx9⟩))
          go_ret
          exact ⟨rfl, (HX0.out.trans hx13).trans hx9⟩
        | true =>
          cases q2 : keepsB r kept with
          | false =>
            have HNO : Hid (keptOk r rate kept = false) := by unfold Hid; rw [keptOk_eq, q1, q2]; rfl
            rw [q1] at HRT
            rw [q2] at HKP
            clear q1 q2
            go_enter Tryz.func3, Tryz.ntmps3
            go_wp2_with (first
              | (go_at_call 10; refine (HSL.out _ (Ext.refl _)).mono ?_; rintro e w1 ⟨rfl, hx1⟩; obtain ⟨z0, z1, z2, z3, z4, z5, z6, z7⟩ := HB.out _ hx1)
              | (go_at_call 12; refine (HD.out _ hx1).mono ?_; rintro e w2 ⟨v1, err, rfl, hx2, hq⟩; rw [if_neg (by rw [HNO.out]; simp)] at hq; obtain ⟨rfl, rfl⟩ := hq; have hx12 := hx1.trans hx2; clear z0 z1 z2 z3 z4 z5 z6 z7; obtain ⟨z0, z1, z2, z3, z4, z5, z6, z7⟩ := HB.out _ hx12)
              | (go_at_call 13; refine (HRR.out _ hx12).mono ?_; rintro e w3 ⟨rfl, hx3⟩; have hx13 := hx12.trans hx3; clear z0 z1 z2 z3 z4 z5 z6 z7; obtain ⟨z0, z1, z2, z3, z4, z5, z6, z7⟩ := HB.out _ hx13)
              | (go_at_call 14; refine (HRT.out _).mono ?_; rintro e w' ⟨rfl, rfl⟩)
              | (go_at_call 15; refine (HKP.out _ hx13).mono ?_; rintro e w4 ⟨rfl, hx4⟩; have hx14 := hx13.trans hx4; clear z0 z1 z2 z3 z4 z5 z6 z7; obtain ⟨z0, z1, z2, z3, z4, z5, z6, z7⟩ := HB.out _ hx14)
              | (go_at_call 11; refine (HL.out _ hx14).mono ?_; rintro e w9 ⟨rfl, hx9⟩))
            go_ret
            exact ⟨rfl, (HX0.out.trans hx14).trans hx9⟩
          | true =>
            have HOK : Hid (keptOk r rate kept = true) := by unfold Hid; rw [keptOk_eq, q1, q2]; rfl
            rw [q1] at HRT
            rw [q2] at HKP
            clear q1 q2
            cases ha : agreeB r (-1) with
            | false =>
              rw [ha] at HAG
              have HA := Lib.hid ha
              clear ha
              go_enter Tryz.func3, Tryz.ntmps3
              go_wp2_with (first
                | (go_at_call 10; refine (HSL.out _ (Ext.refl _)).mono ?_; rintro e w1 ⟨rfl, hx1⟩; obtain ⟨z0, z1, z2, z3, z4, z5, z6, z7⟩ := HB.out _ hx1)
                | (go_at_call 12; refine (HD.out _ hx1).mono ?_; rintro e w2 ⟨v1, err, rfl, hx2, hq⟩; rw [if_pos ⟨HBF.out, HOK.out⟩, if_neg (by rw [HA.out]; simp)] at hq; obtain ⟨rfl, rfl⟩ := hq; have hx12 := hx1.trans hx2; clear z0 z1 z2 z3 z4 z5 z6 z7; obtain ⟨z0, z1, z2, z3, z4, z5, z6, z7⟩ := HB.out _ hx12)
                | (go_at_call 13; refine (HRR.out _ hx12).mono ?_; rintro e w3 ⟨rfl, hx3⟩; have hx13 := hx12.trans hx3; clear z0 z1 z2 z3 z4 z5 z6 z7; obtain ⟨z0, z1, z2, z3, z4, z5, z6, z7⟩ := HB.out _ hx13)
                | (go_at_call 14; refine (HRT.out _).mono ?_; rintro e w' ⟨rfl, rfl⟩)
                | (go_at_call 15; refine (HKP.out _ hx13).mono ?_; rintro e w4 ⟨rfl, hx4⟩; have hx14 := hx13.trans hx4; clear z0 z1 z2 z3 z4 z5 z6 z7; obtain ⟨z0, z1, z2, z3, z4, z5, z6, z7⟩ := HB.out _ hx14)
                | (go_at_call 16; refine (HAG.out hB _ hx14).mono ?_; rintro e w5 ⟨rfl, hx5⟩; have hx15 := hx14.trans hx5; clear z0 z1 z2 z3 z4 z5 z6 z7; obtain ⟨z0, z1, z2, z3, z4, z5, z6, z7⟩ := HB.out _ hx15)
                | (go_at_call 11; refine (HL.out _ hx15).mono ?_; rintro e w9 ⟨rfl, hx9⟩))
              go_ret
              exact ⟨rfl, (HX0.out.trans hx15).trans hx9⟩
            | true =>
              rw [ha] at HAG
              have HA := Lib.hid ha
              clear ha
              go_enter Tryz.func3, Tryz.ntmps3
              go_wp2_with (first
                | (go_at_call 10; refine (HSL.out _ (Ext.refl _)).mono ?_; rintro e w1 ⟨rfl, hx1⟩; obtain ⟨z0, z1, z2, z3, z4, z5, z6, z7⟩ := HB.out _ hx1)
                | (go_at_call 12; refine (HD.out _ hx1).mono ?_; rintro e w2 ⟨v1, err, rfl, hx2, hq⟩; rw [if_pos ⟨HBF.out, HOK.out⟩, if_pos HA.out] at hq; obtain ⟨rfl, hks⟩ := hq; have HKS := Lib.hid hks; clear hks; have hx12 := hx1.trans hx2; clear z0 z1 z2 z3 z4 z5 z6 z7; obtain ⟨z0, z1, z2, z3, z4, z5, z6, z7⟩ := HB.out _ hx12)
                | (go_at_call 13; refine (HRR.out _ hx12).mono ?_; rintro e w3 ⟨rfl, hx3⟩; have hx13 := hx12.trans hx3; clear z0 z1 z2 z3 z4 z5 z6 z7; obtain ⟨z0, z1, z2, z3, z4, z5, z6, z7⟩ := HB.out _ hx13)
                | (go_at_call 14; refine (HRT.out _).mono ?_; rintro e w' ⟨rfl, rfl⟩)
                | (go_at_call 15; refine (HKP.out _ hx13).mono ?_; rintro e w4 ⟨rfl, hx4⟩; have hx14 := hx13.trans hx4; clear z0 z1 z2 z3 z4 z5 z6 z7; obtain ⟨z0, z1, z2, z3, z4, z5, z6, z7⟩ := HB.out _ hx14)
                | (go_at_call 16; refine (HAG.out hB _ hx14).mono ?_; rintro e w5 ⟨rfl, hx5⟩; have hx15 := hx14.trans hx5; clear z0 z1 z2 z3 z4 z5 z6 z7; obtain ⟨z0, z1, z2, z3, z4, z5, z6, z7⟩ := HB.out _ hx15)
                | (go_at_call 18; refine (HRD.out hB HA.out HOK.out _ hx15).mono ?_; rintro e w6 ⟨v2, rfl, hx6, hk6⟩; have hx16 := hx15.trans hx6; have HK6 := Lib.hid hk6; clear hk6)
                | (go_at_call 17; refine (sameSpans_yes _ _ _ _ (HKS.out.ext (((hx3.trans hx4).trans hx5).trans hx6)) HK6.out).mono ?_; rintro e w7 ⟨rfl, hx7⟩; have hx17 := hx16.trans hx7)
                | (go_at_call 11; refine (HL.out _ hx17).mono ?_; rintro e w9 ⟨rfl, hx9⟩))
              go_ret
              exact ⟨rfl, (HX0.out.trans hx17).trans hx9⟩
end Go.Proofs.YtpheidlocijdkaaGreatDoor
