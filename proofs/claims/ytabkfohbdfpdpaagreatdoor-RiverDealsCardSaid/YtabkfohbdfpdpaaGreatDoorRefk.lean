/- The reference's Takes. -/
import Derived.Test.YtabkfohbdfpdpaaGreatDoorReads
namespace Go.Proofs.YtabkfohbdfpdpaaGreatDoor
open Go.RowKit

set_option maxRecDepth 100000 in
set_option maxHeartbeats 8000000 in
theorem rtaks_any (v lv : Value) (b : Book) (l : List Take) (w : World) (hb : BookAt w v b) (hB : BookB b) (hl : RowOf takC w lv l) :
    Calls Tryz.prog 36 #[v, lv] w fun e w' => e = .returned (.bool (areTakesB b l)) ∧ Ext w w' := by
  have HR := Lib.hid (fun n w1 (h : Ext w w1) => rriver_any v b n w1 (hb.ext h))
  have HY := Lib.hid (fun n w1 (h : Ext w w1) => ryear_any v b n w1 (hb.ext h) hB.y1 hB.y2)
  obtain ⟨ra, rc, rfl, _⟩ := hb.slice
  obtain ⟨la, lc, rfl, l1, l2, l3⟩ := RowOf.open4 (f0 := fun (x : Take) => Value.int .i64 x.river) (f1 := fun (x : Take) => Value.int .i64 x.low) (f2 := fun (x : Take) => Value.int .i64 x.high) (f3 := fun (x : Take) => Value.int .i64 x.many) (fun _ => rfl) hl
  have H3 := Lib.hid l3
  have HX0 := Lib.hid ((Ext.refl w).alloc _ : Ext w (w.alloc (.cells #[.int .i64 b.years, .slice ra b.rivers.length rc] 24)))
  have HS := Lib.hid (fun W (h : Ext (w.alloc (.cells #[.int .i64 b.years, .slice ra b.rivers.length rc] 24)) W) => (⟨h.cell (by go_simp), h.cell (by go_simp)⟩ : W.cell? ⟨w.heap.size, 0, none⟩ = some (.int .i64 b.years) ∧ W.cell? ⟨w.heap.size, 1, none⟩ = some (.slice ra b.rivers.length rc)))
  clear l3 hl hb hB
  go_enter Tryz.func36, Tryz.ntmps36
  go_wp2
  go_loopw [5] (fun i wr => ∃ k : Nat, k ≤ l.length ∧ i = .int .i64 k ∧ Hid ((l.take k).any (badTake b) = false) ∧ Ext (w.alloc (.cells #[.int .i64 b.years, .slice ra b.rivers.length rc] 24)) wr) (fun i _ => l.length - (intOf i).toNat)
  case atStart => exact ⟨0, Nat.zero_le _, rfl, by simp [Hid], Ext.refl _⟩
  case round =>
    obtain ⟨k, hk, rfl, hno, hx⟩ := hrel
    by_cases hlt : k < l.length
    · have x2 : decide ((k : Int) < (l.length : Int)) = true := by simpa using hlt
      have i1 : (0 : Int) ≤ (k : Int) := by omega
      have i2 : (k : Int) < (l.length : Int) := by omega
      obtain ⟨bb, f, x, rfl, hxk, c0, c1, c2, c3⟩ := H3.out k hlt
      have HXK := Lib.hid hxk.out
      have HF := Lib.hid (fun W (h : Ext wr W) => (⟨HS.out W (hx.trans h), (HX0.out.trans (hx.trans h)).cell c0, (HX0.out.trans (hx.trans h)).cell c1, (HX0.out.trans (hx.trans h)).cell c2, (HX0.out.trans (hx.trans h)).cell c3⟩ : _ ∧ _ ∧ _ ∧ _ ∧ _))
      have R1 := Lib.hid (fun W (h : Ext wr W) => HR.out x.river W (HX0.out.trans (hx.trans h)))
      have Y1 := Lib.hid (fun W (h : Ext wr W) => HY.out x.low W (HX0.out.trans (hx.trans h)))
      have Y2 := Lib.hid (fun W (h : Ext wr W) => HY.out x.high W (HX0.out.trans (hx.trans h)))
      have I1 := Lib.hid (fun W => rin_any x.many 0 100 W)
      have hbad : badTake b x = (!isRiverB b x.river || !isYearB b x.low || !isYearB b x.high || decide (x.high < x.low) || !inB x.many 0 100) := rfl
      clear hxk c0 c1 c2 c3
      cases h1 : isRiverB b x.river with
      | false =>
        rw [h1] at R1
        rw [h1] at hbad
        replace hbad := hbad.trans (show _ = true from rfl)
        have HN : Hid (areTakesB b l = false) := by unfold Hid areTakesB; rw [any_of_at (badTake b) HXK.out hbad]; simp
        clear hbad h1
        go_upto_region 4 with fail
        refine region_reads (C := fun W => Ext wr W) (by kernel_rfl) (by kernel_rfl) ((Ext.refl wr).drew) ?_
        repeat (first | go_big_quiet_skip | (go_big_quiet_want; go_big_quiet_op; first | go_big_quiet_on | (refine ⟨_, fun W hW => rfl, ?_⟩; go_big_quiet_on)) | (go_big_quiet_want; refine ⟨?_, fun W hW => ?_, ?_⟩; rotate_left; (· (obtain ⟨⟨z0, z1⟩, z2, z3, z4, z5⟩ := HF.out W hW); go_simp; (first | with_reducible rfl | (go_at_call 23; refine (R1.out W hW).mono ?_; rintro e w' ⟨rfl, hx1⟩; constructor; with_reducible rfl; exact hW.trans hx1))); (try simp only [Act.put, List.setIfInBounds_toArray, List.set_cons_zero, List.set_cons_succ]); go_big_quiet_on))
        refine wpQuiet_nil ?_
        intro wq hq
        go_wp2
        go_ret
        exact ⟨by rw [HN.out] <;> rfl, HX0.out.trans (hx.trans hq)⟩
      | true =>
        rw [h1] at R1
        cases h2 : isYearB b x.low with
        | false =>
          rw [h2] at Y1
          rw [h1, h2] at hbad
          replace hbad := hbad.trans (show _ = true from rfl)
          have HN : Hid (areTakesB b l = false) := by unfold Hid areTakesB; rw [any_of_at (badTake b) HXK.out hbad]; simp
          clear hbad h1 h2
          go_upto_region 4 with fail
          refine region_reads (C := fun W => Ext wr W) (by kernel_rfl) (by kernel_rfl) ((Ext.refl wr).drew) ?_
          repeat (first | go_big_quiet_skip | (go_big_quiet_want; go_big_quiet_op; first | go_big_quiet_on | (refine ⟨_, fun W hW => rfl, ?_⟩; go_big_quiet_on)) | (go_big_quiet_want; refine ⟨?_, fun W hW => ?_, ?_⟩; rotate_left; (· (obtain ⟨⟨z0, z1⟩, z2, z3, z4, z5⟩ := HF.out W hW); go_simp; (first | with_reducible rfl | (go_at_call 23; refine (R1.out W hW).mono ?_; rintro e w' ⟨rfl, hx1⟩; constructor; with_reducible rfl; exact hW.trans hx1) | (go_at_call 24; refine (Y1.out W hW).mono ?_; rintro e w' ⟨rfl, hx1⟩; constructor; with_reducible rfl; exact hW.trans hx1))); (try simp only [Act.put, List.setIfInBounds_toArray, List.set_cons_zero, List.set_cons_succ]); go_big_quiet_on))
          refine wpQuiet_nil ?_
          intro wq hq
          go_wp2
          go_ret
          exact ⟨by rw [HN.out] <;> rfl, HX0.out.trans (hx.trans hq)⟩
        | true =>
          rw [h2] at Y1
          cases h3 : isYearB b x.high with
          | false =>
            rw [h3] at Y2
            rw [h1, h2, h3] at hbad
            replace hbad := hbad.trans (show _ = true from rfl)
            have HN : Hid (areTakesB b l = false) := by unfold Hid areTakesB; rw [any_of_at (badTake b) HXK.out hbad]; simp
            clear hbad h1 h2 h3
            go_upto_region 4 with fail
            refine region_reads (C := fun W => Ext wr W) (by kernel_rfl) (by kernel_rfl) ((Ext.refl wr).drew) ?_
            repeat (first | go_big_quiet_skip | (go_big_quiet_want; go_big_quiet_op; first | go_big_quiet_on | (refine ⟨_, fun W hW => rfl, ?_⟩; go_big_quiet_on)) | (go_big_quiet_want; refine ⟨?_, fun W hW => ?_, ?_⟩; rotate_left; (· (obtain ⟨⟨z0, z1⟩, z2, z3, z4, z5⟩ := HF.out W hW); go_simp; (first | with_reducible rfl | (go_at_call 23; refine (R1.out W hW).mono ?_; rintro e w' ⟨rfl, hx1⟩; constructor; with_reducible rfl; exact hW.trans hx1) | (go_at_call 24; refine (Y1.out W hW).mono ?_; rintro e w' ⟨rfl, hx1⟩; constructor; with_reducible rfl; exact hW.trans hx1) | (go_at_call 24; refine (Y2.out W hW).mono ?_; rintro e w' ⟨rfl, hx1⟩; constructor; with_reducible rfl; exact hW.trans hx1))); (try simp only [Act.put, List.setIfInBounds_toArray, List.set_cons_zero, List.set_cons_succ]); go_big_quiet_on))
            refine wpQuiet_nil ?_
            intro wq hq
            go_wp2
            go_ret
            exact ⟨by rw [HN.out] <;> rfl, HX0.out.trans (hx.trans hq)⟩
          | true =>
            rw [h3] at Y2
            cases h4 : decide (x.high < x.low) with
            | true =>
              rw [h1, h2, h3, h4] at hbad
              replace hbad := hbad.trans (show _ = true from rfl)
              have HN : Hid (areTakesB b l = false) := by unfold Hid areTakesB; rw [any_of_at (badTake b) HXK.out hbad]; simp
              clear hbad h1 h2 h3
              go_upto_region 4 with fail
              refine region_reads (C := fun W => Ext wr W) (by kernel_rfl) (by kernel_rfl) ((Ext.refl wr).drew) ?_
              repeat (first | go_big_quiet_skip | (go_big_quiet_want; go_big_quiet_op; first | go_big_quiet_on | (refine ⟨_, fun W hW => rfl, ?_⟩; go_big_quiet_on)) | (go_big_quiet_want; refine ⟨?_, fun W hW => ?_, ?_⟩; rotate_left; (· (obtain ⟨⟨z0, z1⟩, z2, z3, z4, z5⟩ := HF.out W hW); go_simp; (first | with_reducible rfl | (go_at_call 23; refine (R1.out W hW).mono ?_; rintro e w' ⟨rfl, hx1⟩; constructor; with_reducible rfl; exact hW.trans hx1) | (go_at_call 24; refine (Y1.out W hW).mono ?_; rintro e w' ⟨rfl, hx1⟩; constructor; with_reducible rfl; exact hW.trans hx1) | (go_at_call 24; refine (Y2.out W hW).mono ?_; rintro e w' ⟨rfl, hx1⟩; constructor; with_reducible rfl; exact hW.trans hx1))); (try simp only [Act.put, List.setIfInBounds_toArray, List.set_cons_zero, List.set_cons_succ]); go_big_quiet_on))
              refine wpQuiet_nil ?_
              intro wq hq
              go_wp2
              go_ret
              exact ⟨by rw [HN.out] <;> rfl, HX0.out.trans (hx.trans hq)⟩
            | false =>
              cases h5 : inB x.many 0 100 with
              | false =>
                rw [h5] at I1
                rw [h1, h2, h3, h4, h5] at hbad
                replace hbad := hbad.trans (show _ = true from rfl)
                have HN : Hid (areTakesB b l = false) := by unfold Hid areTakesB; rw [any_of_at (badTake b) HXK.out hbad]; simp
                clear hbad h1 h2 h3 h5
                go_upto_region 4 with fail
                refine region_reads (C := fun W => Ext wr W) (by kernel_rfl) (by kernel_rfl) ((Ext.refl wr).drew) ?_
                repeat (first | go_big_quiet_skip | (go_big_quiet_want; go_big_quiet_op; first | go_big_quiet_on | (refine ⟨_, fun W hW => rfl, ?_⟩; go_big_quiet_on)) | (go_big_quiet_want; refine ⟨?_, fun W hW => ?_, ?_⟩; rotate_left; (· (obtain ⟨⟨z0, z1⟩, z2, z3, z4, z5⟩ := HF.out W hW); go_simp; (first | with_reducible rfl | (go_at_call 23; refine (R1.out W hW).mono ?_; rintro e w' ⟨rfl, hx1⟩; constructor; with_reducible rfl; exact hW.trans hx1) | (go_at_call 24; refine (Y1.out W hW).mono ?_; rintro e w' ⟨rfl, hx1⟩; constructor; with_reducible rfl; exact hW.trans hx1) | (go_at_call 24; refine (Y2.out W hW).mono ?_; rintro e w' ⟨rfl, hx1⟩; constructor; with_reducible rfl; exact hW.trans hx1) | (go_at_call 50; refine (I1.out W).mono ?_; rintro e w' ⟨rfl, rfl⟩; constructor; with_reducible rfl; exact hW))); (try simp only [Act.put, List.setIfInBounds_toArray, List.set_cons_zero, List.set_cons_succ]); go_big_quiet_on))
                refine wpQuiet_nil ?_
                intro wq hq
                go_wp2
                go_ret
                exact ⟨by rw [HN.out] <;> rfl, HX0.out.trans (hx.trans hq)⟩
              | true =>
                rw [h5] at I1
                rw [h1, h2, h3, h4, h5] at hbad
                replace hbad := hbad.trans (show _ = false from rfl)
                have HN : Hid ((l.take (k + 1)).any (badTake b) = false) := by unfold Hid; rw [any_take_succ _ HXK.out, hno.out, hbad]; rfl
                clear hbad h1 h2 h3 h5
                go_upto_region 4 with fail
                refine region_reads (C := fun W => Ext wr W) (by kernel_rfl) (by kernel_rfl) ((Ext.refl wr).drew) ?_
                repeat (first | go_big_quiet_skip | (go_big_quiet_want; go_big_quiet_op; first | go_big_quiet_on | (refine ⟨_, fun W hW => rfl, ?_⟩; go_big_quiet_on)) | (go_big_quiet_want; refine ⟨?_, fun W hW => ?_, ?_⟩; rotate_left; (· (obtain ⟨⟨z0, z1⟩, z2, z3, z4, z5⟩ := HF.out W hW); go_simp; (first | with_reducible rfl | (go_at_call 23; refine (R1.out W hW).mono ?_; rintro e w' ⟨rfl, hx1⟩; constructor; with_reducible rfl; exact hW.trans hx1) | (go_at_call 24; refine (Y1.out W hW).mono ?_; rintro e w' ⟨rfl, hx1⟩; constructor; with_reducible rfl; exact hW.trans hx1) | (go_at_call 24; refine (Y2.out W hW).mono ?_; rintro e w' ⟨rfl, hx1⟩; constructor; with_reducible rfl; exact hW.trans hx1) | (go_at_call 50; refine (I1.out W).mono ?_; rintro e w' ⟨rfl, rfl⟩; constructor; with_reducible rfl; exact hW))); (try simp only [Act.put, List.setIfInBounds_toArray, List.set_cons_zero, List.set_cons_succ]); go_big_quiet_on))
                refine wpQuiet_nil ?_
                intro wq hq
                go_wp2
                go_roundw
                case rel => exact ⟨k + 1, by omega, by go_num, HN, hx.trans hq⟩
                case measure => simp [intOf]; omega
    · have x2 : decide ((k : Int) < (l.length : Int)) = false := by simp; omega
      have HN : Hid (areTakesB b l = decide ((l.length : Int) ≤ 6)) := by
        have h := hno.out
        rw [List.take_of_length_le (by omega)] at h
        unfold Hid areTakesB; rw [h, Bool.not_false, Bool.and_true]; exact decide_eq_decide.2 (by omega)
      go_wp2
      go_ret
      exact ⟨by rw [HN.out] <;> rfl, HX0.out.trans hx⟩
end Go.Proofs.YtabkfohbdfpdpaaGreatDoor
