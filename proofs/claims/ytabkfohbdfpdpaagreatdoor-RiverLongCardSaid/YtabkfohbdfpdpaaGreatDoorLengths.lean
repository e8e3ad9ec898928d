/- The law RiverLengths. -/
import Derived.Test.YtabkfohbdfpdpaaGreatDoorLawb
import Derived.Test.YtabkfohbdfpdpaaGreatDoorRlen
namespace Go.Proofs.YtabkfohbdfpdpaaGreatDoor
open Go.RowKit

theorem Length_bad {v : Value} {b : Book} {r y z : Int} {w : World} (hb : BookAt w v b) (h : lengthArg b r y z = false) : Calls Tryz.prog 21 #[v, .int .i64 r, .int .i64 y, .int .i64 z] w fun e w' => e = .returned (.tuple #[.agg #[.int .i64 0, .int .i64 0], .int .i64 2]) ∧ Ext w w' :=
  (Length_any v b r y z w hb).mono fun e w' q => by
    obtain ⟨h1, h2⟩ := q
    rw [h] at h2
    exact ⟨h2, h1⟩
theorem Length_ok {v : Value} {b : Book} {r y z LA LB : Int} {w : World} (hb : BookAt w v b) (h : lengthArg b r y z = true) (hl : lengthOf b r y z = (LA, LB)) : Calls Tryz.prog 21 #[v, .int .i64 r, .int .i64 y, .int .i64 z] w fun e w' => e = .returned (.tuple #[.agg #[.int .i64 LA, .int .i64 LB], .int .i64 0]) ∧ Ext w w' :=
  (Length_any v b r y z w hb).mono fun e w' q => by
    obtain ⟨h1, h2⟩ := q
    rw [h, hl] at h2
    exact ⟨h2, h1⟩
theorem Ripe_bad {v : Value} {b : Book} {r y n : Int} {w : World} (hb : BookAt w v b) (h : ripeArg b r y n = false) : Calls Tryz.prog 22 #[v, .int .i64 r, .int .i64 y, .int .i64 n] w fun e w' => e = .returned (.tuple #[.int .i64 0, .int .i64 2]) ∧ Ext w w' :=
  (Ripe_any v b r y n w hb).mono fun e w' q => by
    obtain ⟨h1, h2⟩ := q
    rw [h] at h2
    exact ⟨h2, h1⟩
theorem Ripe_none' {v : Value} {b : Book} {r y n : Int} {w : World} (hb : BookAt w v b) (h : ripeArg b r y n = true) (hl : ripeOf b r y n = none) : Calls Tryz.prog 22 #[v, .int .i64 r, .int .i64 y, .int .i64 n] w fun e w' => e = .returned (.tuple #[.int .i64 0, .int .i64 5]) ∧ Ext w w' :=
  (Ripe_any v b r y n w hb).mono fun e w' q => by
    obtain ⟨h1, h2⟩ := q
    rw [h, hl] at h2
    exact ⟨h2, h1⟩
theorem Ripe_ok {v : Value} {b : Book} {r y n : Int} {k : Nat} {w : World} (hb : BookAt w v b) (h : ripeArg b r y n = true) (hl : ripeOf b r y n = some k) : Calls Tryz.prog 22 #[v, .int .i64 r, .int .i64 y, .int .i64 n] w fun e w' => e = .returned (.tuple #[.int .i64 (y + k), .int .i64 0]) ∧ Ext w w' :=
  (Ripe_any v b r y n w hb).mono fun e w' q => by
    obtain ⟨h1, h2⟩ := q
    rw [h, hl] at h2
    exact ⟨h2, h1⟩
set_option maxRecDepth 100000 in
set_option maxHeartbeats 8000000 in
theorem riverLengths_any (v : Value) (b : Book) (r y z n : Int) (w : World) (hb : BookAt w v b) (ht : TabOk w) :
    Calls Tryz.prog 4 #[v, .int .i64 r, .int .i64 y, .int .i64 z, .int .i64 n] w (TrueP w) := by
  have HB := Lib.hid (LawB.of hb ht)
  have HBB := Lib.hid (fun w1 (h : Ext w w1) => hb.ext h)
  have HRV := Lib.hid (fun n w1 (h : Ext w w1) => rriver_any v b n w1 (hb.ext h))
  obtain ⟨ra, rc, rfl, _⟩ := hb.slice
  have HX0 := Lib.hid ((Ext.refl w).alloc _ : Ext w (w.alloc (.cells #[.int .i64 b.years, .slice ra b.rivers.length rc] 24)))
  have HS := Lib.hid (fun W (h : Ext (w.alloc (.cells #[.int .i64 b.years, .slice ra b.rivers.length rc] 24)) W) => (⟨h.cell (by go_simp), h.cell (by go_simp)⟩ : W.cell? ⟨w.heap.size, 0, none⟩ = some (.int .i64 b.years) ∧ W.cell? ⟨w.heap.size, 1, none⟩ = some (.slice ra b.rivers.length rc)))
  have HQ := Lib.hid (fun (LA LB : Int) w2 (h2 : Ext (w.alloc (.cells #[.int .i64 b.years, .slice ra b.rivers.length rc] 24)) w2) W (h : Ext (w2.alloc (.cells #[.int .i64 LA, .int .i64 LB] 47)) W) => (⟨HS.out W ((h2.alloc _).trans h), ⟨h.cell (by go_simp), h.cell (by go_simp)⟩⟩ : (W.cell? ⟨w.heap.size, 0, none⟩ = some (.int .i64 b.years) ∧ W.cell? ⟨w.heap.size, 1, none⟩ = some (.slice ra b.rivers.length rc)) ∧ W.cell? ⟨w2.heap.size, 0, none⟩ = some (.int .i64 LA) ∧ W.cell? ⟨w2.heap.size, 1, none⟩ = some (.int .i64 LB)))
  have hmix : Tryz.prog.follows .mixedOrders = true := by kernel_rfl
  have hsg := span_guard
  have hsn := span_neq
  clear hb ht
  cases hsl : slimB b with
  | false =>
    go_enter Tryz.func4, Tryz.ntmps4
    go_wp2_with (first
      | (go_at_call 11; refine (HB.out.slim _ HX0.out).mono ?_; rintro e w1 ⟨rfl, hx1⟩)
      | (go_at_call 16; refine (HB.out.known _ (HX0.out.trans hx1)).mono ?_; rintro e w2 ⟨rfl, hx2⟩))
    go_ret
    exact ⟨rfl, (HX0.out.trans hx1).trans hx2⟩
  | true =>
    cases h1 : isBookB b with
    | false =>
      have HLE := Lib.hid (fun w1 (h : Ext w w1) => Length_bad (HBB.out w1 h) (show lengthArg b r y z = false by unfold lengthArg; rw [h1]; rfl))
      have HRI := Lib.hid (fun w1 (h : Ext w w1) => Ripe_bad (HBB.out w1 h) (show ripeArg b r y n = false by unfold ripeArg; rw [h1]; rfl))
      have HQ1 := Lib.hid (HQ.out (0) (0))
      clear HQ
      go_enter Tryz.func4, Tryz.ntmps4
      go_wp2_with (first | (go_at_call 11; refine (HB.out.slim _ HX0.out).mono ?_; rintro e w1 ⟨rfl, hx1⟩; obtain ⟨z0, z1⟩ := HS.out _ hx1) | (go_at_call 21; refine (HLE.out _ (HX0.out.trans hx1)).mono ?_; rintro e w2 ⟨rfl, hx2⟩; have hx12 := hx1.trans hx2; have HQQ := Lib.hid (HQ1.out w2 hx12); have HXQ := Lib.hid ((HX0.out.trans hx12).alloc (.cells #[.int .i64 (0), .int .i64 (0)] 47)); have hq := Ext.refl (w2.alloc (.cells #[.int .i64 (0), .int .i64 (0)] 47)); clear z0 z1 hx1 hx2 hx12; obtain ⟨⟨z0, z1⟩, z2, z3⟩ := HQQ.out _ hq) | (go_at_call 22; refine (HRI.out _ (HXQ.out.trans hq)).mono ?_; rintro e w3 ⟨rfl, hx3⟩; replace hq := hq.trans hx3; clear hx3 z0 z1 z2 z3; obtain ⟨⟨z0, z1⟩, z2, z3⟩ := HQQ.out _ hq) | (go_at_call 12; refine (HB.out.book _ (HXQ.out.trans hq)).mono ?_; rintro e w3 ⟨rfl, hx3⟩; replace hq := hq.trans hx3; clear hx3 z0 z1 z2 z3; obtain ⟨⟨z0, z1⟩, z2, z3⟩ := HQQ.out _ hq) | (go_at_call 23; refine (HRV.out _ _ (HXQ.out.trans hq)).mono ?_; rintro e w3 ⟨rfl, hx3⟩; replace hq := hq.trans hx3; clear hx3 z0 z1 z2 z3; obtain ⟨⟨z0, z1⟩, z2, z3⟩ := HQQ.out _ hq) | (go_at_call 16; refine (HB.out.known _ (HXQ.out.trans hq)).mono ?_; rintro e w4 ⟨rfl, hx4⟩))
      go_ret
      exact ⟨rfl, (HXQ.out.trans hq).trans hx4⟩
    | true =>
      have hB := bookB_of h1
      have HYR := Lib.hid (fun m w1 (h : Ext w w1) => ryear_any _ b m w1 (HBB.out w1 h) hB.y1 hB.y2)
      cases h2 : isRiverB b r with
      | false =>
        have HLE := Lib.hid (fun w1 (h : Ext w w1) => Length_bad (HBB.out w1 h) (show lengthArg b r y z = false by unfold lengthArg; rw [h2]; simp))
        have HRI := Lib.hid (fun w1 (h : Ext w w1) => Ripe_bad (HBB.out w1 h) (show ripeArg b r y n = false by unfold ripeArg; rw [h2]; simp))
        clear hB
        have HQ1 := Lib.hid (HQ.out (0) (0))
        clear HQ
        go_enter Tryz.func4, Tryz.ntmps4
        go_wp2_with (first | (go_at_call 11; refine (HB.out.slim _ HX0.out).mono ?_; rintro e w1 ⟨rfl, hx1⟩; obtain ⟨z0, z1⟩ := HS.out _ hx1) | (go_at_call 21; refine (HLE.out _ (HX0.out.trans hx1)).mono ?_; rintro e w2 ⟨rfl, hx2⟩; have hx12 := hx1.trans hx2; have HQQ := Lib.hid (HQ1.out w2 hx12); have HXQ := Lib.hid ((HX0.out.trans hx12).alloc (.cells #[.int .i64 (0), .int .i64 (0)] 47)); have hq := Ext.refl (w2.alloc (.cells #[.int .i64 (0), .int .i64 (0)] 47)); clear z0 z1 hx1 hx2 hx12; obtain ⟨⟨z0, z1⟩, z2, z3⟩ := HQQ.out _ hq) | (go_at_call 22; refine (HRI.out _ (HXQ.out.trans hq)).mono ?_; rintro e w3 ⟨rfl, hx3⟩; replace hq := hq.trans hx3; clear hx3 z0 z1 z2 z3; obtain ⟨⟨z0, z1⟩, z2, z3⟩ := HQQ.out _ hq) | (go_at_call 12; refine (HB.out.book _ (HXQ.out.trans hq)).mono ?_; rintro e w3 ⟨rfl, hx3⟩; replace hq := hq.trans hx3; clear hx3 z0 z1 z2 z3; obtain ⟨⟨z0, z1⟩, z2, z3⟩ := HQQ.out _ hq) | (go_at_call 23; refine (HRV.out _ _ (HXQ.out.trans hq)).mono ?_; rintro e w3 ⟨rfl, hx3⟩; replace hq := hq.trans hx3; clear hx3 z0 z1 z2 z3; obtain ⟨⟨z0, z1⟩, z2, z3⟩ := HQQ.out _ hq) | (go_at_call 16; refine (HB.out.known _ (HXQ.out.trans hq)).mono ?_; rintro e w4 ⟨rfl, hx4⟩))
        go_ret
        exact ⟨rfl, (HXQ.out.trans hq).trans hx4⟩
      | true =>
        cases h3 : isYearB b y with
        | false =>
          have HLE := Lib.hid (fun w1 (h : Ext w w1) => Length_bad (HBB.out w1 h) (show lengthArg b r y z = false by unfold lengthArg; rw [h3]; simp))
          have HRI := Lib.hid (fun w1 (h : Ext w w1) => Ripe_bad (HBB.out w1 h) (show ripeArg b r y n = false by unfold ripeArg; rw [h3]; simp))
          clear hB
          have HQ1 := Lib.hid (HQ.out (0) (0))
          clear HQ
          go_enter Tryz.func4, Tryz.ntmps4
          go_wp2_with (first | (go_at_call 11; refine (HB.out.slim _ HX0.out).mono ?_; rintro e w1 ⟨rfl, hx1⟩; obtain ⟨z0, z1⟩ := HS.out _ hx1) | (go_at_call 21; refine (HLE.out _ (HX0.out.trans hx1)).mono ?_; rintro e w2 ⟨rfl, hx2⟩; have hx12 := hx1.trans hx2; have HQQ := Lib.hid (HQ1.out w2 hx12); have HXQ := Lib.hid ((HX0.out.trans hx12).alloc (.cells #[.int .i64 (0), .int .i64 (0)] 47)); have hq := Ext.refl (w2.alloc (.cells #[.int .i64 (0), .int .i64 (0)] 47)); clear z0 z1 hx1 hx2 hx12; obtain ⟨⟨z0, z1⟩, z2, z3⟩ := HQQ.out _ hq) | (go_at_call 22; refine (HRI.out _ (HXQ.out.trans hq)).mono ?_; rintro e w3 ⟨rfl, hx3⟩; replace hq := hq.trans hx3; clear hx3 z0 z1 z2 z3; obtain ⟨⟨z0, z1⟩, z2, z3⟩ := HQQ.out _ hq) | (go_at_call 12; refine (HB.out.book _ (HXQ.out.trans hq)).mono ?_; rintro e w3 ⟨rfl, hx3⟩; replace hq := hq.trans hx3; clear hx3 z0 z1 z2 z3; obtain ⟨⟨z0, z1⟩, z2, z3⟩ := HQQ.out _ hq) | (go_at_call 23; refine (HRV.out _ _ (HXQ.out.trans hq)).mono ?_; rintro e w3 ⟨rfl, hx3⟩; replace hq := hq.trans hx3; clear hx3 z0 z1 z2 z3; obtain ⟨⟨z0, z1⟩, z2, z3⟩ := HQQ.out _ hq) | (go_at_call 24; refine (HYR.out _ _ (HXQ.out.trans hq)).mono ?_; rintro e w3 ⟨rfl, hx3⟩; replace hq := hq.trans hx3; clear hx3 z0 z1 z2 z3; obtain ⟨⟨z0, z1⟩, z2, z3⟩ := HQQ.out _ hq) | (go_at_call 16; refine (HB.out.known _ (HXQ.out.trans hq)).mono ?_; rintro e w4 ⟨rfl, hx4⟩))
          go_ret
          exact ⟨rfl, (HXQ.out.trans hq).trans hx4⟩
        | true =>
          obtain ⟨r1, r2⟩ := inB_iff.1 h2
          obtain ⟨y1, y2⟩ := inB_iff.1 h3
          obtain ⟨rn, rfl⟩ : ∃ rn : Nat, r = rn := ⟨r.toNat, by omega⟩
          obtain ⟨yn, rfl⟩ : ∃ yn : Nat, y = yn := ⟨y.toNat, by omega⟩
          have HRR := Lib.hid (fun w1 (h : Ext w w1) => rripe_any _ b rn yn n w1 (HBB.out w1 h) hB (by omega) (by omega))
          cases h4 : isYearB b z with
          | false =>
            have HLE := Lib.hid (fun w1 (h : Ext w w1) => Length_bad (HBB.out w1 h) (show lengthArg b rn yn z = false by unfold lengthArg; rw [h4]; simp))
            cases h5 : inB n 0 300 with
            | false =>
              have HRI := Lib.hid (fun w1 (h : Ext w w1) => Ripe_bad (HBB.out w1 h) (show ripeArg b rn yn n = false by unfold ripeArg; rw [h5]; simp))
              clear hB
              have HQ1 := Lib.hid (HQ.out (0) (0))
              clear HQ
              go_enter Tryz.func4, Tryz.ntmps4
              go_wp2_with (first | (go_at_call 11; refine (HB.out.slim _ HX0.out).mono ?_; rintro e w1 ⟨rfl, hx1⟩; obtain ⟨z0, z1⟩ := HS.out _ hx1) | (go_at_call 21; refine (HLE.out _ (HX0.out.trans hx1)).mono ?_; rintro e w2 ⟨rfl, hx2⟩; have hx12 := hx1.trans hx2; have HQQ := Lib.hid (HQ1.out w2 hx12); have HXQ := Lib.hid ((HX0.out.trans hx12).alloc (.cells #[.int .i64 (0), .int .i64 (0)] 47)); have hq := Ext.refl (w2.alloc (.cells #[.int .i64 (0), .int .i64 (0)] 47)); clear z0 z1 hx1 hx2 hx12; obtain ⟨⟨z0, z1⟩, z2, z3⟩ := HQQ.out _ hq) | (go_at_call 22; refine (HRI.out _ (HXQ.out.trans hq)).mono ?_; rintro e w3 ⟨rfl, hx3⟩; replace hq := hq.trans hx3; clear hx3 z0 z1 z2 z3; obtain ⟨⟨z0, z1⟩, z2, z3⟩ := HQQ.out _ hq) | (go_at_call 12; refine (HB.out.book _ (HXQ.out.trans hq)).mono ?_; rintro e w3 ⟨rfl, hx3⟩; replace hq := hq.trans hx3; clear hx3 z0 z1 z2 z3; obtain ⟨⟨z0, z1⟩, z2, z3⟩ := HQQ.out _ hq) | (go_at_call 23; refine (HRV.out _ _ (HXQ.out.trans hq)).mono ?_; rintro e w3 ⟨rfl, hx3⟩; replace hq := hq.trans hx3; clear hx3 z0 z1 z2 z3; obtain ⟨⟨z0, z1⟩, z2, z3⟩ := HQQ.out _ hq) | (go_at_call 24; refine (HYR.out _ _ (HXQ.out.trans hq)).mono ?_; rintro e w3 ⟨rfl, hx3⟩; replace hq := hq.trans hx3; clear hx3 z0 z1 z2 z3; obtain ⟨⟨z0, z1⟩, z2, z3⟩ := HQQ.out _ hq) | (go_at_call 26; refine (rsize_any _ _).mono ?_; rintro e w' ⟨rfl, rfl⟩) | (go_at_call 16; refine (HB.out.known _ (HXQ.out.trans hq)).mono ?_; rintro e w4 ⟨rfl, hx4⟩))
              go_ret
              exact ⟨rfl, (HXQ.out.trans hq).trans hx4⟩
            | true =>
              have ha : ripeArg b rn yn n = true := by unfold ripeArg; rw [h1, h2, h3, h5]; rfl
              cases h6 : ripeOf b rn yn n with
              | none =>
                have HRI := Lib.hid (fun w1 (h : Ext w w1) => Ripe_none' (HBB.out w1 h) ha h6)
                rw [show rripeN b rn yn n = -1 by unfold rripeN; rw [h6]] at HRR
                clear ha h6 hB
                have HQ1 := Lib.hid (HQ.out (0) (0))
                clear HQ
                go_enter Tryz.func4, Tryz.ntmps4
                go_wp2_with (first | (go_at_call 11; refine (HB.out.slim _ HX0.out).mono ?_; rintro e w1 ⟨rfl, hx1⟩; obtain ⟨z0, z1⟩ := HS.out _ hx1) | (go_at_call 21; refine (HLE.out _ (HX0.out.trans hx1)).mono ?_; rintro e w2 ⟨rfl, hx2⟩; have hx12 := hx1.trans hx2; have HQQ := Lib.hid (HQ1.out w2 hx12); have HXQ := Lib.hid ((HX0.out.trans hx12).alloc (.cells #[.int .i64 (0), .int .i64 (0)] 47)); have hq := Ext.refl (w2.alloc (.cells #[.int .i64 (0), .int .i64 (0)] 47)); clear z0 z1 hx1 hx2 hx12; obtain ⟨⟨z0, z1⟩, z2, z3⟩ := HQQ.out _ hq) | (go_at_call 22; refine (HRI.out _ (HXQ.out.trans hq)).mono ?_; rintro e w3 ⟨rfl, hx3⟩; replace hq := hq.trans hx3; clear hx3 z0 z1 z2 z3; obtain ⟨⟨z0, z1⟩, z2, z3⟩ := HQQ.out _ hq) | (go_at_call 12; refine (HB.out.book _ (HXQ.out.trans hq)).mono ?_; rintro e w3 ⟨rfl, hx3⟩; replace hq := hq.trans hx3; clear hx3 z0 z1 z2 z3; obtain ⟨⟨z0, z1⟩, z2, z3⟩ := HQQ.out _ hq) | (go_at_call 23; refine (HRV.out _ _ (HXQ.out.trans hq)).mono ?_; rintro e w3 ⟨rfl, hx3⟩; replace hq := hq.trans hx3; clear hx3 z0 z1 z2 z3; obtain ⟨⟨z0, z1⟩, z2, z3⟩ := HQQ.out _ hq) | (go_at_call 24; refine (HYR.out _ _ (HXQ.out.trans hq)).mono ?_; rintro e w3 ⟨rfl, hx3⟩; replace hq := hq.trans hx3; clear hx3 z0 z1 z2 z3; obtain ⟨⟨z0, z1⟩, z2, z3⟩ := HQQ.out _ hq) | (go_at_call 26; refine (rsize_any _ _).mono ?_; rintro e w' ⟨rfl, rfl⟩) | (go_at_call 27; refine (HRR.out _ (HXQ.out.trans hq)).mono ?_; rintro e w3 ⟨rfl, hx3⟩; replace hq := hq.trans hx3; clear hx3 z0 z1 z2 z3; obtain ⟨⟨z0, z1⟩, z2, z3⟩ := HQQ.out _ hq) | (go_at_call 16; refine (HB.out.known _ (HXQ.out.trans hq)).mono ?_; rintro e w4 ⟨rfl, hx4⟩))
                go_ret
                exact ⟨rfl, (HXQ.out.trans hq).trans hx4⟩
              | some k =>
                have HRI := Lib.hid (fun w1 (h : Ext w w1) => Ripe_ok (HBB.out w1 h) ha h6)
                rw [show rripeN b rn yn n = (yn : Int) + k by unfold rripeN; rw [h6]] at HRR
                have t6 : decide ((yn : Int) + (k : Int) < 0) = false := by simp; omega
                clear ha h6 hB
                have HQ1 := Lib.hid (HQ.out (0) (0))
                clear HQ
                go_enter Tryz.func4, Tryz.ntmps4
                go_wp2_with (first | (go_at_call 11; refine (HB.out.slim _ HX0.out).mono ?_; rintro e w1 ⟨rfl, hx1⟩; obtain ⟨z0, z1⟩ := HS.out _ hx1) | (go_at_call 21; refine (HLE.out _ (HX0.out.trans hx1)).mono ?_; rintro e w2 ⟨rfl, hx2⟩; have hx12 := hx1.trans hx2; have HQQ := Lib.hid (HQ1.out w2 hx12); have HXQ := Lib.hid ((HX0.out.trans hx12).alloc (.cells #[.int .i64 (0), .int .i64 (0)] 47)); have hq := Ext.refl (w2.alloc (.cells #[.int .i64 (0), .int .i64 (0)] 47)); clear z0 z1 hx1 hx2 hx12; obtain ⟨⟨z0, z1⟩, z2, z3⟩ := HQQ.out _ hq) | (go_at_call 22; refine (HRI.out _ (HXQ.out.trans hq)).mono ?_; rintro e w3 ⟨rfl, hx3⟩; replace hq := hq.trans hx3; clear hx3 z0 z1 z2 z3; obtain ⟨⟨z0, z1⟩, z2, z3⟩ := HQQ.out _ hq) | (go_at_call 12; refine (HB.out.book _ (HXQ.out.trans hq)).mono ?_; rintro e w3 ⟨rfl, hx3⟩; replace hq := hq.trans hx3; clear hx3 z0 z1 z2 z3; obtain ⟨⟨z0, z1⟩, z2, z3⟩ := HQQ.out _ hq) | (go_at_call 23; refine (HRV.out _ _ (HXQ.out.trans hq)).mono ?_; rintro e w3 ⟨rfl, hx3⟩; replace hq := hq.trans hx3; clear hx3 z0 z1 z2 z3; obtain ⟨⟨z0, z1⟩, z2, z3⟩ := HQQ.out _ hq) | (go_at_call 24; refine (HYR.out _ _ (HXQ.out.trans hq)).mono ?_; rintro e w3 ⟨rfl, hx3⟩; replace hq := hq.trans hx3; clear hx3 z0 z1 z2 z3; obtain ⟨⟨z0, z1⟩, z2, z3⟩ := HQQ.out _ hq) | (go_at_call 26; refine (rsize_any _ _).mono ?_; rintro e w' ⟨rfl, rfl⟩) | (go_at_call 27; refine (HRR.out _ (HXQ.out.trans hq)).mono ?_; rintro e w3 ⟨rfl, hx3⟩; replace hq := hq.trans hx3; clear hx3 z0 z1 z2 z3; obtain ⟨⟨z0, z1⟩, z2, z3⟩ := HQQ.out _ hq) | (go_at_call 16; refine (HB.out.known _ (HXQ.out.trans hq)).mono ?_; rintro e w4 ⟨rfl, hx4⟩))
                go_ret
                exact ⟨rfl, (HXQ.out.trans hq).trans hx4⟩
          | true =>
            by_cases hzy : z < (yn : Int)
            · have t7 : decide (z < (yn : Int)) = true := by simpa using hzy
              have HLE := Lib.hid (fun w1 (h : Ext w w1) => Length_bad (HBB.out w1 h) (show lengthArg b rn yn z = false by unfold lengthArg; rw [decide_eq_false (by omega : ¬ (yn : Int) ≤ z)]; simp))
              cases h5 : inB n 0 300 with
              | false =>
                have HRI := Lib.hid (fun w1 (h : Ext w w1) => Ripe_bad (HBB.out w1 h) (show ripeArg b rn yn n = false by unfold ripeArg; rw [h5]; simp))
                clear hB
                have HQ1 := Lib.hid (HQ.out (0) (0))
                clear HQ
                go_enter Tryz.func4, Tryz.ntmps4
                go_wp2_with (first | (go_at_call 11; refine (HB.out.slim _ HX0.out).mono ?_; rintro e w1 ⟨rfl, hx1⟩; obtain ⟨z0, z1⟩ := HS.out _ hx1) | (go_at_call 21; refine (HLE.out _ (HX0.out.trans hx1)).mono ?_; rintro e w2 ⟨rfl, hx2⟩; have hx12 := hx1.trans hx2; have HQQ := Lib.hid (HQ1.out w2 hx12); have HXQ := Lib.hid ((HX0.out.trans hx12).alloc (.cells #[.int .i64 (0), .int .i64 (0)] 47)); have hq := Ext.refl (w2.alloc (.cells #[.int .i64 (0), .int .i64 (0)] 47)); clear z0 z1 hx1 hx2 hx12; obtain ⟨⟨z0, z1⟩, z2, z3⟩ := HQQ.out _ hq) | (go_at_call 22; refine (HRI.out _ (HXQ.out.trans hq)).mono ?_; rintro e w3 ⟨rfl, hx3⟩; replace hq := hq.trans hx3; clear hx3 z0 z1 z2 z3; obtain ⟨⟨z0, z1⟩, z2, z3⟩ := HQQ.out _ hq) | (go_at_call 12; refine (HB.out.book _ (HXQ.out.trans hq)).mono ?_; rintro e w3 ⟨rfl, hx3⟩; replace hq := hq.trans hx3; clear hx3 z0 z1 z2 z3; obtain ⟨⟨z0, z1⟩, z2, z3⟩ := HQQ.out _ hq) | (go_at_call 23; refine (HRV.out _ _ (HXQ.out.trans hq)).mono ?_; rintro e w3 ⟨rfl, hx3⟩; replace hq := hq.trans hx3; clear hx3 z0 z1 z2 z3; obtain ⟨⟨z0, z1⟩, z2, z3⟩ := HQQ.out _ hq) | (go_at_call 24; refine (HYR.out _ _ (HXQ.out.trans hq)).mono ?_; rintro e w3 ⟨rfl, hx3⟩; replace hq := hq.trans hx3; clear hx3 z0 z1 z2 z3; obtain ⟨⟨z0, z1⟩, z2, z3⟩ := HQQ.out _ hq) | (go_at_call 26; refine (rsize_any _ _).mono ?_; rintro e w' ⟨rfl, rfl⟩) | (go_at_call 16; refine (HB.out.known _ (HXQ.out.trans hq)).mono ?_; rintro e w4 ⟨rfl, hx4⟩))
                go_ret
                exact ⟨rfl, (HXQ.out.trans hq).trans hx4⟩
              | true =>
                have ha : ripeArg b rn yn n = true := by unfold ripeArg; rw [h1, h2, h3, h5]; rfl
                cases h6 : ripeOf b rn yn n with
                | none =>
                  have HRI := Lib.hid (fun w1 (h : Ext w w1) => Ripe_none' (HBB.out w1 h) ha h6)
                  rw [show rripeN b rn yn n = -1 by unfold rripeN; rw [h6]] at HRR
                  clear ha h6 hB
                  have HQ1 := Lib.hid (HQ.out (0) (0))
                  clear HQ
                  go_enter Tryz.func4, Tryz.ntmps4
                  go_wp2_with (first | (go_at_call 11; refine (HB.out.slim _ HX0.out).mono ?_; rintro e w1 ⟨rfl, hx1⟩; obtain ⟨z0, z1⟩ := HS.out _ hx1) | (go_at_call 21; refine (HLE.out _ (HX0.out.trans hx1)).mono ?_; rintro e w2 ⟨rfl, hx2⟩; have hx12 := hx1.trans hx2; have HQQ := Lib.hid (HQ1.out w2 hx12); have HXQ := Lib.hid ((HX0.out.trans hx12).alloc (.cells #[.int .i64 (0), .int .i64 (0)] 47)); have hq := Ext.refl (w2.alloc (.cells #[.int .i64 (0), .int .i64 (0)] 47)); clear z0 z1 hx1 hx2 hx12; obtain ⟨⟨z0, z1⟩, z2, z3⟩ := HQQ.out _ hq) | (go_at_call 22; refine (HRI.out _ (HXQ.out.trans hq)).mono ?_; rintro e w3 ⟨rfl, hx3⟩; replace hq := hq.trans hx3; clear hx3 z0 z1 z2 z3; obtain ⟨⟨z0, z1⟩, z2, z3⟩ := HQQ.out _ hq) | (go_at_call 12; refine (HB.out.book _ (HXQ.out.trans hq)).mono ?_; rintro e w3 ⟨rfl, hx3⟩; replace hq := hq.trans hx3; clear hx3 z0 z1 z2 z3; obtain ⟨⟨z0, z1⟩, z2, z3⟩ := HQQ.out _ hq) | (go_at_call 23; refine (HRV.out _ _ (HXQ.out.trans hq)).mono ?_; rintro e w3 ⟨rfl, hx3⟩; replace hq := hq.trans hx3; clear hx3 z0 z1 z2 z3; obtain ⟨⟨z0, z1⟩, z2, z3⟩ := HQQ.out _ hq) | (go_at_call 24; refine (HYR.out _ _ (HXQ.out.trans hq)).mono ?_; rintro e w3 ⟨rfl, hx3⟩; replace hq := hq.trans hx3; clear hx3 z0 z1 z2 z3; obtain ⟨⟨z0, z1⟩, z2, z3⟩ := HQQ.out _ hq) | (go_at_call 26; refine (rsize_any _ _).mono ?_; rintro e w' ⟨rfl, rfl⟩) | (go_at_call 27; refine (HRR.out _ (HXQ.out.trans hq)).mono ?_; rintro e w3 ⟨rfl, hx3⟩; replace hq := hq.trans hx3; clear hx3 z0 z1 z2 z3; obtain ⟨⟨z0, z1⟩, z2, z3⟩ := HQQ.out _ hq) | (go_at_call 16; refine (HB.out.known _ (HXQ.out.trans hq)).mono ?_; rintro e w4 ⟨rfl, hx4⟩))
                  go_ret
                  exact ⟨rfl, (HXQ.out.trans hq).trans hx4⟩
                | some k =>
                  have HRI := Lib.hid (fun w1 (h : Ext w w1) => Ripe_ok (HBB.out w1 h) ha h6)
                  rw [show rripeN b rn yn n = (yn : Int) + k by unfold rripeN; rw [h6]] at HRR
                  have t6 : decide ((yn : Int) + (k : Int) < 0) = false := by simp; omega
                  clear ha h6 hB
                  have HQ1 := Lib.hid (HQ.out (0) (0))
                  clear HQ
                  go_enter Tryz.func4, Tryz.ntmps4
                  go_wp2_with (first | (go_at_call 11; refine (HB.out.slim _ HX0.out).mono ?_; rintro e w1 ⟨rfl, hx1⟩; obtain ⟨z0, z1⟩ := HS.out _ hx1) | (go_at_call 21; refine (HLE.out _ (HX0.out.trans hx1)).mono ?_; rintro e w2 ⟨rfl, hx2⟩; have hx12 := hx1.trans hx2; have HQQ := Lib.hid (HQ1.out w2 hx12); have HXQ := Lib.hid ((HX0.out.trans hx12).alloc (.cells #[.int .i64 (0), .int .i64 (0)] 47)); have hq := Ext.refl (w2.alloc (.cells #[.int .i64 (0), .int .i64 (0)] 47)); clear z0 z1 hx1 hx2 hx12; obtain ⟨⟨z0, z1⟩, z2, z3⟩ := HQQ.out _ hq) | (go_at_call 22; refine (HRI.out _ (HXQ.out.trans hq)).mono ?_; rintro e w3 ⟨rfl, hx3⟩; replace hq := hq.trans hx3; clear hx3 z0 z1 z2 z3; obtain ⟨⟨z0, z1⟩, z2, z3⟩ := HQQ.out _ hq) | (go_at_call 12; refine (HB.out.book _ (HXQ.out.trans hq)).mono ?_; rintro e w3 ⟨rfl, hx3⟩; replace hq := hq.trans hx3; clear hx3 z0 z1 z2 z3; obtain ⟨⟨z0, z1⟩, z2, z3⟩ := HQQ.out _ hq) | (go_at_call 23; refine (HRV.out _ _ (HXQ.out.trans hq)).mono ?_; rintro e w3 ⟨rfl, hx3⟩; replace hq := hq.trans hx3; clear hx3 z0 z1 z2 z3; obtain ⟨⟨z0, z1⟩, z2, z3⟩ := HQQ.out _ hq) | (go_at_call 24; refine (HYR.out _ _ (HXQ.out.trans hq)).mono ?_; rintro e w3 ⟨rfl, hx3⟩; replace hq := hq.trans hx3; clear hx3 z0 z1 z2 z3; obtain ⟨⟨z0, z1⟩, z2, z3⟩ := HQQ.out _ hq) | (go_at_call 26; refine (rsize_any _ _).mono ?_; rintro e w' ⟨rfl, rfl⟩) | (go_at_call 27; refine (HRR.out _ (HXQ.out.trans hq)).mono ?_; rintro e w3 ⟨rfl, hx3⟩; replace hq := hq.trans hx3; clear hx3 z0 z1 z2 z3; obtain ⟨⟨z0, z1⟩, z2, z3⟩ := HQQ.out _ hq) | (go_at_call 16; refine (HB.out.known _ (HXQ.out.trans hq)).mono ?_; rintro e w4 ⟨rfl, hx4⟩))
                  go_ret
                  exact ⟨rfl, (HXQ.out.trans hq).trans hx4⟩
            · have t7 : decide (z < (yn : Int)) = false := by simpa using hzy
              obtain ⟨q1, q2⟩ := inB_iff.1 h4
              obtain ⟨zn, rfl⟩ : ∃ zn : Nat, z = zn := ⟨z.toNat, by omega⟩
              obtain ⟨LA, LB, hLL⟩ : ∃ LA LB, lengthOf b rn yn zn = (LA, LB) := ⟨_, _, rfl⟩
              have HRL := Lib.hid (fun w1 (h : Ext w w1) => rlength_any _ b rn yn zn w1 (HBB.out w1 h) hB (by omega) (by omega) (by omega))
              rw [hLL] at HRL
              have HLE := Lib.hid (fun w1 (h : Ext w w1) => Length_ok (HBB.out w1 h) (show lengthArg b rn yn zn = true by unfold lengthArg; rw [h1, h2, h3, h4, decide_eq_true (by omega : (yn : Int) ≤ zn)]; rfl) hLL)
              clear hLL
              cases h5 : inB n 0 300 with
              | false =>
                have HRI := Lib.hid (fun w1 (h : Ext w w1) => Ripe_bad (HBB.out w1 h) (show ripeArg b rn yn n = false by unfold ripeArg; rw [h5]; simp))
                clear hB
                have HQ1 := Lib.hid (HQ.out (LA) (LB))
                clear HQ
                go_enter Tryz.func4, Tryz.ntmps4
                go_upto_region 9 with (first | (go_at_call 11; refine (HB.out.slim _ HX0.out).mono ?_; rintro e w1 ⟨rfl, hx1⟩; obtain ⟨z0, z1⟩ := HS.out _ hx1) | (go_at_call 21; refine (HLE.out _ (HX0.out.trans hx1)).mono ?_; rintro e w2 ⟨rfl, hx2⟩; have hx12 := hx1.trans hx2; have HQQ := Lib.hid (HQ1.out w2 hx12); have HXQ := Lib.hid ((HX0.out.trans hx12).alloc (.cells #[.int .i64 (LA), .int .i64 (LB)] 47)); have hq := Ext.refl (w2.alloc (.cells #[.int .i64 (LA), .int .i64 (LB)] 47)); clear z0 z1 hx1 hx2 hx12; obtain ⟨⟨z0, z1⟩, z2, z3⟩ := HQQ.out _ hq) | (go_at_call 22; refine (HRI.out _ (HXQ.out.trans hq)).mono ?_; rintro e w3 ⟨rfl, hx3⟩; replace hq := hq.trans hx3; clear hx3 z0 z1 z2 z3; obtain ⟨⟨z0, z1⟩, z2, z3⟩ := HQQ.out _ hq) | (go_at_call 12; refine (HB.out.book _ (HXQ.out.trans hq)).mono ?_; rintro e w3 ⟨rfl, hx3⟩; replace hq := hq.trans hx3; clear hx3 z0 z1 z2 z3; obtain ⟨⟨z0, z1⟩, z2, z3⟩ := HQQ.out _ hq) | (go_at_call 23; refine (HRV.out _ _ (HXQ.out.trans hq)).mono ?_; rintro e w3 ⟨rfl, hx3⟩; replace hq := hq.trans hx3; clear hx3 z0 z1 z2 z3; obtain ⟨⟨z0, z1⟩, z2, z3⟩ := HQQ.out _ hq) | (go_at_call 24; refine (HYR.out _ _ (HXQ.out.trans hq)).mono ?_; rintro e w3 ⟨rfl, hx3⟩; replace hq := hq.trans hx3; clear hx3 z0 z1 z2 z3; obtain ⟨⟨z0, z1⟩, z2, z3⟩ := HQQ.out _ hq) | (go_at_call 26; refine (rsize_any _ _).mono ?_; rintro e w' ⟨rfl, rfl⟩) | (go_at_call 16; refine (HB.out.known _ (HXQ.out.trans hq)).mono ?_; rintro e w4 ⟨rfl, hx4⟩))
                have HQC := Lib.hid (fun W (h : Ext w3 W) => HQQ.out W (hq.trans h))
                have hy3 : Ext w3 w3 := Ext.refl _
                go_region_held3 (fun w' => w'.cell? ⟨w.heap.size, 0, none⟩ = some (.int .i64 b.years) ∧ w'.cell? ⟨w.heap.size, 1, none⟩ = some (.slice ra b.rivers.length rc) ∧ w'.cell? ⟨w2.heap.size, 0, none⟩ = some (.int .i64 (LA)) ∧ w'.cell? ⟨w2.heap.size, 1, none⟩ = some (.int .i64 (LB))) (first | exact ⟨(HQC.out _ (by repeat (first | assumption | exact Ext.refl _ | apply Ext.drew))).1.1, (HQC.out _ (by repeat (first | assumption | exact Ext.refl _ | apply Ext.drew))).1.2, (HQC.out _ (by repeat (first | assumption | exact Ext.refl _ | apply Ext.drew))).2.1, (HQC.out _ (by repeat (first | assumption | exact Ext.refl _ | apply Ext.drew))).2.2⟩)
                  (first | (go_at_call 25; refine (HRL.out _ ((HXQ.out.trans hq).trans (by repeat (first | assumption | exact Ext.refl _ | apply Ext.drew)))).mono ?_; rintro e wz ⟨rfl, hz⟩; have hyz : Ext w3 wz := Ext.trans (by repeat (first | assumption | exact Ext.refl _ | apply Ext.drew)) hz; clear hz))
                replace hq := hq.trans hyz
                clear hyz z0 z1 z2 z3
                obtain ⟨⟨z0, z1⟩, z2, z3⟩ := HQQ.out _ hq
                go_wp2_with (first | (go_at_call 11; refine (HB.out.slim _ HX0.out).mono ?_; rintro e w1 ⟨rfl, hx1⟩; obtain ⟨z0, z1⟩ := HS.out _ hx1) | (go_at_call 21; refine (HLE.out _ (HX0.out.trans hx1)).mono ?_; rintro e w2 ⟨rfl, hx2⟩; have hx12 := hx1.trans hx2; have HQQ := Lib.hid (HQ1.out w2 hx12); have HXQ := Lib.hid ((HX0.out.trans hx12).alloc (.cells #[.int .i64 (LA), .int .i64 (LB)] 47)); have hq := Ext.refl (w2.alloc (.cells #[.int .i64 (LA), .int .i64 (LB)] 47)); clear z0 z1 hx1 hx2 hx12; obtain ⟨⟨z0, z1⟩, z2, z3⟩ := HQQ.out _ hq) | (go_at_call 22; refine (HRI.out _ (HXQ.out.trans hq)).mono ?_; rintro e w3 ⟨rfl, hx3⟩; replace hq := hq.trans hx3; clear hx3 z0 z1 z2 z3; obtain ⟨⟨z0, z1⟩, z2, z3⟩ := HQQ.out _ hq) | (go_at_call 12; refine (HB.out.book _ (HXQ.out.trans hq)).mono ?_; rintro e w3 ⟨rfl, hx3⟩; replace hq := hq.trans hx3; clear hx3 z0 z1 z2 z3; obtain ⟨⟨z0, z1⟩, z2, z3⟩ := HQQ.out _ hq) | (go_at_call 23; refine (HRV.out _ _ (HXQ.out.trans hq)).mono ?_; rintro e w3 ⟨rfl, hx3⟩; replace hq := hq.trans hx3; clear hx3 z0 z1 z2 z3; obtain ⟨⟨z0, z1⟩, z2, z3⟩ := HQQ.out _ hq) | (go_at_call 24; refine (HYR.out _ _ (HXQ.out.trans hq)).mono ?_; rintro e w3 ⟨rfl, hx3⟩; replace hq := hq.trans hx3; clear hx3 z0 z1 z2 z3; obtain ⟨⟨z0, z1⟩, z2, z3⟩ := HQQ.out _ hq) | (go_at_call 26; refine (rsize_any _ _).mono ?_; rintro e w' ⟨rfl, rfl⟩) | (go_at_call 16; refine (HB.out.known _ (HXQ.out.trans hq)).mono ?_; rintro e w4 ⟨rfl, hx4⟩))
                go_ret
                exact ⟨rfl, (HXQ.out.trans hq).trans hx4⟩
              | true =>
                have ha : ripeArg b rn yn n = true := by unfold ripeArg; rw [h1, h2, h3, h5]; rfl
                cases h6 : ripeOf b rn yn n with
                | none =>
                  have HRI := Lib.hid (fun w1 (h : Ext w w1) => Ripe_none' (HBB.out w1 h) ha h6)
                  rw [show rripeN b rn yn n = -1 by unfold rripeN; rw [h6]] at HRR
                  clear ha h6 hB
                  have HQ1 := Lib.hid (HQ.out (LA) (LB))
                  clear HQ
                  go_enter Tryz.func4, Tryz.ntmps4
                  go_upto_region 9 with (first | (go_at_call 11; refine (HB.out.slim _ HX0.out).mono ?_; rintro e w1 ⟨rfl, hx1⟩; obtain ⟨z0, z1⟩ := HS.out _ hx1) | (go_at_call 21; refine (HLE.out _ (HX0.out.trans hx1)).mono ?_; rintro e w2 ⟨rfl, hx2⟩; have hx12 := hx1.trans hx2; have HQQ := Lib.hid (HQ1.out w2 hx12); have HXQ := Lib.hid ((HX0.out.trans hx12).alloc (.cells #[.int .i64 (LA), .int .i64 (LB)] 47)); have hq := Ext.refl (w2.alloc (.cells #[.int .i64 (LA), .int .i64 (LB)] 47)); clear z0 z1 hx1 hx2 hx12; obtain ⟨⟨z0, z1⟩, z2, z3⟩ := HQQ.out _ hq) | (go_at_call 22; refine (HRI.out _ (HXQ.out.trans hq)).mono ?_; rintro e w3 ⟨rfl, hx3⟩; replace hq := hq.trans hx3; clear hx3 z0 z1 z2 z3; obtain ⟨⟨z0, z1⟩, z2, z3⟩ := HQQ.out _ hq) | (go_at_call 12; refine (HB.out.book _ (HXQ.out.trans hq)).mono ?_; rintro e w3 ⟨rfl, hx3⟩; replace hq := hq.trans hx3; clear hx3 z0 z1 z2 z3; obtain ⟨⟨z0, z1⟩, z2, z3⟩ := HQQ.out _ hq) | (go_at_call 23; refine (HRV.out _ _ (HXQ.out.trans hq)).mono ?_; rintro e w3 ⟨rfl, hx3⟩; replace hq := hq.trans hx3; clear hx3 z0 z1 z2 z3; obtain ⟨⟨z0, z1⟩, z2, z3⟩ := HQQ.out _ hq) | (go_at_call 24; refine (HYR.out _ _ (HXQ.out.trans hq)).mono ?_; rintro e w3 ⟨rfl, hx3⟩; replace hq := hq.trans hx3; clear hx3 z0 z1 z2 z3; obtain ⟨⟨z0, z1⟩, z2, z3⟩ := HQQ.out _ hq) | (go_at_call 26; refine (rsize_any _ _).mono ?_; rintro e w' ⟨rfl, rfl⟩) | (go_at_call 27; refine (HRR.out _ (HXQ.out.trans hq)).mono ?_; rintro e w3 ⟨rfl, hx3⟩; replace hq := hq.trans hx3; clear hx3 z0 z1 z2 z3; obtain ⟨⟨z0, z1⟩, z2, z3⟩ := HQQ.out _ hq) | (go_at_call 16; refine (HB.out.known _ (HXQ.out.trans hq)).mono ?_; rintro e w4 ⟨rfl, hx4⟩))
                  have HQC := Lib.hid (fun W (h : Ext w3 W) => HQQ.out W (hq.trans h))
                  have hy3 : Ext w3 w3 := Ext.refl _
                  go_region_held3 (fun w' => w'.cell? ⟨w.heap.size, 0, none⟩ = some (.int .i64 b.years) ∧ w'.cell? ⟨w.heap.size, 1, none⟩ = some (.slice ra b.rivers.length rc) ∧ w'.cell? ⟨w2.heap.size, 0, none⟩ = some (.int .i64 (LA)) ∧ w'.cell? ⟨w2.heap.size, 1, none⟩ = some (.int .i64 (LB))) (first | exact ⟨(HQC.out _ (by repeat (first | assumption | exact Ext.refl _ | apply Ext.drew))).1.1, (HQC.out _ (by repeat (first | assumption | exact Ext.refl _ | apply Ext.drew))).1.2, (HQC.out _ (by repeat (first | assumption | exact Ext.refl _ | apply Ext.drew))).2.1, (HQC.out _ (by repeat (first | assumption | exact Ext.refl _ | apply Ext.drew))).2.2⟩)
                    (first | (go_at_call 25; refine (HRL.out _ ((HXQ.out.trans hq).trans (by repeat (first | assumption | exact Ext.refl _ | apply Ext.drew)))).mono ?_; rintro e wz ⟨rfl, hz⟩; have hyz : Ext w3 wz := Ext.trans (by repeat (first | assumption | exact Ext.refl _ | apply Ext.drew)) hz; clear hz))
                  replace hq := hq.trans hyz
                  clear hyz z0 z1 z2 z3
                  obtain ⟨⟨z0, z1⟩, z2, z3⟩ := HQQ.out _ hq
                  go_wp2_with (first | (go_at_call 11; refine (HB.out.slim _ HX0.out).mono ?_; rintro e w1 ⟨rfl, hx1⟩; obtain ⟨z0, z1⟩ := HS.out _ hx1) | (go_at_call 21; refine (HLE.out _ (HX0.out.trans hx1)).mono ?_; rintro e w2 ⟨rfl, hx2⟩; have hx12 := hx1.trans hx2; have HQQ := Lib.hid (HQ1.out w2 hx12); have HXQ := Lib.hid ((HX0.out.trans hx12).alloc (.cells #[.int .i64 (LA), .int .i64 (LB)] 47)); have hq := Ext.refl (w2.alloc (.cells #[.int .i64 (LA), .int .i64 (LB)] 47)); clear z0 z1 hx1 hx2 hx12; obtain ⟨⟨z0, z1⟩, z2, z3⟩ := HQQ.out _ hq) | (go_at_call 22; refine (HRI.out _ (HXQ.out.trans hq)).mono ?_; rintro e w3 ⟨rfl, hx3⟩; replace hq := hq.trans hx3; clear hx3 z0 z1 z2 z3; obtain ⟨⟨z0, z1⟩, z2, z3⟩ := HQQ.out _ hq) | (go_at_call 12; refine (HB.out.book _ (HXQ.out.trans hq)).mono ?_; rintro e w3 ⟨rfl, hx3⟩; replace hq := hq.trans hx3; clear hx3 z0 z1 z2 z3; obtain ⟨⟨z0, z1⟩, z2, z3⟩ := HQQ.out _ hq) | (go_at_call 23; refine (HRV.out _ _ (HXQ.out.trans hq)).mono ?_; rintro e w3 ⟨rfl, hx3⟩; replace hq := hq.trans hx3; clear hx3 z0 z1 z2 z3; obtain ⟨⟨z0, z1⟩, z2, z3⟩ := HQQ.out _ hq) | (go_at_call 24; refine (HYR.out _ _ (HXQ.out.trans hq)).mono ?_; rintro e w3 ⟨rfl, hx3⟩; replace hq := hq.trans hx3; clear hx3 z0 z1 z2 z3; obtain ⟨⟨z0, z1⟩, z2, z3⟩ := HQQ.out _ hq) | (go_at_call 26; refine (rsize_any _ _).mono ?_; rintro e w' ⟨rfl, rfl⟩) | (go_at_call 27; refine (HRR.out _ (HXQ.out.trans hq)).mono ?_; rintro e w3 ⟨rfl, hx3⟩; replace hq := hq.trans hx3; clear hx3 z0 z1 z2 z3; obtain ⟨⟨z0, z1⟩, z2, z3⟩ := HQQ.out _ hq) | (go_at_call 16; refine (HB.out.known _ (HXQ.out.trans hq)).mono ?_; rintro e w4 ⟨rfl, hx4⟩))
                  go_ret
                  exact ⟨rfl, (HXQ.out.trans hq).trans hx4⟩
                | some k =>
                  have HRI := Lib.hid (fun w1 (h : Ext w w1) => Ripe_ok (HBB.out w1 h) ha h6)
                  rw [show rripeN b rn yn n = (yn : Int) + k by unfold rripeN; rw [h6]] at HRR
                  have t6 : decide ((yn : Int) + (k : Int) < 0) = false := by simp; omega
                  clear ha h6 hB
                  have HQ1 := Lib.hid (HQ.out (LA) (LB))
                  clear HQ
                  go_enter Tryz.func4, Tryz.ntmps4
                  go_upto_region 9 with (first | (go_at_call 11; refine (HB.out.slim _ HX0.out).mono ?_; rintro e w1 ⟨rfl, hx1⟩; obtain ⟨z0, z1⟩ := HS.out _ hx1) | (go_at_call 21; refine (HLE.out _ (HX0.out.trans hx1)).mono ?_; rintro e w2 ⟨rfl, hx2⟩; have hx12 := hx1.trans hx2; have HQQ := Lib.hid (HQ1.out w2 hx12); have HXQ := Lib.hid ((HX0.out.trans hx12).alloc (.cells #[.int .i64 (LA), .int .i64 (LB)] 47)); have hq := Ext.refl (w2.alloc (.cells #[.int .i64 (LA), .int .i64 (LB)] 47)); clear z0 z1 hx1 hx2 hx12; obtain ⟨⟨z0, z1⟩, z2, z3⟩ := HQQ.out _ hq) | (go_at_call 22; refine (HRI.out _ (HXQ.out.trans hq)).mono ?_; rintro e w3 ⟨rfl, hx3⟩; replace hq := hq.trans hx3; clear hx3 z0 z1 z2 z3; obtain ⟨⟨z0, z1⟩, z2, z3⟩ := HQQ.out _ hq) | (go_at_call 12; refine (HB.out.book _ (HXQ.out.trans hq)).mono ?_; rintro e w3 ⟨rfl, hx3⟩; replace hq := hq.trans hx3; clear hx3 z0 z1 z2 z3; obtain ⟨⟨z0, z1⟩, z2, z3⟩ := HQQ.out _ hq) | (go_at_call 23; refine (HRV.out _ _ (HXQ.out.trans hq)).mono ?_; rintro e w3 ⟨rfl, hx3⟩; replace hq := hq.trans hx3; clear hx3 z0 z1 z2 z3; obtain ⟨⟨z0, z1⟩, z2, z3⟩ := HQQ.out _ hq) | (go_at_call 24; refine (HYR.out _ _ (HXQ.out.trans hq)).mono ?_; rintro e w3 ⟨rfl, hx3⟩; replace hq := hq.trans hx3; clear hx3 z0 z1 z2 z3; obtain ⟨⟨z0, z1⟩, z2, z3⟩ := HQQ.out _ hq) | (go_at_call 26; refine (rsize_any _ _).mono ?_; rintro e w' ⟨rfl, rfl⟩) | (go_at_call 27; refine (HRR.out _ (HXQ.out.trans hq)).mono ?_; rintro e w3 ⟨rfl, hx3⟩; replace hq := hq.trans hx3; clear hx3 z0 z1 z2 z3; obtain ⟨⟨z0, z1⟩, z2, z3⟩ := HQQ.out _ hq) | (go_at_call 16; refine (HB.out.known _ (HXQ.out.trans hq)).mono ?_; rintro e w4 ⟨rfl, hx4⟩))
                  have HQC := Lib.hid (fun W (h : Ext w3 W) => HQQ.out W (hq.trans h))
                  have hy3 : Ext w3 w3 := Ext.refl _
                  go_region_held3 (fun w' => w'.cell? ⟨w.heap.size, 0, none⟩ = some (.int .i64 b.years) ∧ w'.cell? ⟨w.heap.size, 1, none⟩ = some (.slice ra b.rivers.length rc) ∧ w'.cell? ⟨w2.heap.size, 0, none⟩ = some (.int .i64 (LA)) ∧ w'.cell? ⟨w2.heap.size, 1, none⟩ = some (.int .i64 (LB))) (first | exact ⟨(HQC.out _ (by repeat (first | assumption | exact Ext.refl _ | apply Ext.drew))).1.1, (HQC.out _ (by repeat (first | assumption | exact Ext.refl _ | apply Ext.drew))).1.2, (HQC.out _ (by repeat (first | assumption | exact Ext.refl _ | apply Ext.drew))).2.1, (HQC.out _ (by repeat (first | assumption | exact Ext.refl _ | apply Ext.drew))).2.2⟩)
                    (first | (go_at_call 25; refine (HRL.out _ ((HXQ.out.trans hq).trans (by repeat (first | assumption | exact Ext.refl _ | apply Ext.drew)))).mono ?_; rintro e wz ⟨rfl, hz⟩; have hyz : Ext w3 wz := Ext.trans (by repeat (first | assumption | exact Ext.refl _ | apply Ext.drew)) hz; clear hz))
                  replace hq := hq.trans hyz
                  clear hyz z0 z1 z2 z3
                  obtain ⟨⟨z0, z1⟩, z2, z3⟩ := HQQ.out _ hq
                  go_wp2_with (first | (go_at_call 11; refine (HB.out.slim _ HX0.out).mono ?_; rintro e w1 ⟨rfl, hx1⟩; obtain ⟨z0, z1⟩ := HS.out _ hx1) | (go_at_call 21; refine (HLE.out _ (HX0.out.trans hx1)).mono ?_; rintro e w2 ⟨rfl, hx2⟩; have hx12 := hx1.trans hx2; have HQQ := Lib.hid (HQ1.out w2 hx12); have HXQ := Lib.hid ((HX0.out.trans hx12).alloc (.cells #[.int .i64 (LA), .int .i64 (LB)] 47)); have hq := Ext.refl (w2.alloc (.cells #[.int .i64 (LA), .int .i64 (LB)] 47)); clear z0 z1 hx1 hx2 hx12; obtain ⟨⟨z0, z1⟩, z2, z3⟩ := HQQ.out _ hq) | (go_at_call 22; refine (HRI.out _ (HXQ.out.trans hq)).mono ?_; rintro e w3 ⟨rfl, hx3⟩; replace hq := hq.trans hx3; clear hx3 z0 z1 z2 z3; obtain ⟨⟨z0, z1⟩, z2, z3⟩ := HQQ.out _ hq) | (go_at_call 12; refine (HB.out.book _ (HXQ.out.trans hq)).mono ?_; rintro e w3 ⟨rfl, hx3⟩; replace hq := hq.trans hx3; clear hx3 z0 z1 z2 z3; obtain ⟨⟨z0, z1⟩, z2, z3⟩ := HQQ.out _ hq) | (go_at_call 23; refine (HRV.out _ _ (HXQ.out.trans hq)).mono ?_; rintro e w3 ⟨rfl, hx3⟩; replace hq := hq.trans hx3; clear hx3 z0 z1 z2 z3; obtain ⟨⟨z0, z1⟩, z2, z3⟩ := HQQ.out _ hq) | (go_at_call 24; refine (HYR.out _ _ (HXQ.out.trans hq)).mono ?_; rintro e w3 ⟨rfl, hx3⟩; replace hq := hq.trans hx3; clear hx3 z0 z1 z2 z3; obtain ⟨⟨z0, z1⟩, z2, z3⟩ := HQQ.out _ hq) | (go_at_call 26; refine (rsize_any _ _).mono ?_; rintro e w' ⟨rfl, rfl⟩) | (go_at_call 27; refine (HRR.out _ (HXQ.out.trans hq)).mono ?_; rintro e w3 ⟨rfl, hx3⟩; replace hq := hq.trans hx3; clear hx3 z0 z1 z2 z3; obtain ⟨⟨z0, z1⟩, z2, z3⟩ := HQQ.out _ hq) | (go_at_call 16; refine (HB.out.known _ (HXQ.out.trans hq)).mono ?_; rintro e w4 ⟨rfl, hx4⟩))
                  go_ret
                  exact ⟨rfl, (HXQ.out.trans hq).trans hx4⟩
end Go.Proofs.YtabkfohbdfpdpaaGreatDoor
