/- The law RiverTests. -/
import Derived.Test.YtdmdabhdcpjkiaaGreatDoorKnowq
import Derived.Test.YtdmdabhdcpjkiaaGreatDoorRtruqq
import Derived.Test.YtdmdabhdcpjkiaaGreatDoorRsetq
namespace Go.Proofs.YtdmdabhdcpjkiaaGreatDoor
open Go.RowKit
theorem pats_len (b : Book) (s : Sack) : (patternsOf b s).length ≤ 16 := by
 unfold patternsOf
 exact Nat.le_trans (List.length_filter_le _ _) (by simp)
set_option maxRecDepth 100000 in
set_option maxHeartbeats 8000000 in
theorem riverTests_any (bv : Value) (b : Book) (sv : Value) (s : Sack) (m : Int) (w : World) (hb : BookAt w bv b) (hs : SackAt w sv s) (ht : TabOk w) :
  Calls Tryz.prog 3 #[bv, sv, .int .i64 m] w (TrueP w) := by
 have HB := Lib.hid (LawB.of hb ht)
 have HBR := Lib.hid (fun w1 (h : Ext w w1) => brief_any sv s w1 (hs.ext h))
 have HFI := Lib.hid (fun w1 (h : Ext w w1) => Tests_any bv sv b s m w1 (hb.ext h) (hs.ext h))
 have HSA := Lib.hid (fun w1 (h : Ext w w1) => rsack_any sv s w1 (hs.ext h))
 have HTR := Lib.hid (fun hB hS w1 (h : Ext w w1) => rtruths_any bv sv b s w1 (hb.ext h) hB (hs.ext h) hS)
 obtain ⟨ra, rc, rfl, _⟩ := hb.slice
 obtain ⟨sa, sc, ta, tc, rfl, _⟩ := hs.slice
 obtain ⟨W0, hW0⟩ : ∃ W0, W0 = (w.alloc (.cells #[.int .i64 b.years, .slice ra b.rivers.length rc] 24)).alloc (.cells #[.slice sa s.shells.length sc, .slice ta s.tests.length tc] 28) := ⟨_, rfl⟩
 have HX0 := Lib.hid (show Ext w W0 by rw [hW0]; exact ((Ext.refl w).alloc _).alloc _)
 have HS := Lib.hid (fun W (h : Ext W0 W) => (⟨h.cell (by rw [hW0]; go_simp), h.cell (by rw [hW0]; go_simp), h.cell (by rw [hW0]; go_simp), h.cell (by rw [hW0]; go_simp)⟩ :
  W.cell? ⟨w.heap.size, 0, none⟩ = some (.int .i64 b.years) ∧ W.cell? ⟨w.heap.size, 1, none⟩ = some (.slice ra b.rivers.length rc) ∧ W.cell? ⟨w.heap.size + 1, 0, none⟩ = some (.slice sa s.shells.length sc) ∧ W.cell? ⟨w.heap.size + 1, 1, none⟩ = some (.slice ta s.tests.length tc)))
 clear hb ht hs
 go_enter Tryz.func3, Tryz.ntmps3
 go_upto_region 1 with fail
 rw [← hW0]
 clear hW0
 have hq := Ext.refl W0
 obtain ⟨z0, z1, z2, z3⟩ := HS.out _ hq
 have HB1 := Lib.hid (fun w1 (h : Ext w w1) => HB.out.slim w1 h)
 have HB2 := Lib.hid (fun w1 (h : Ext w w1) => HB.out.book w1 h)
 cases h1 : slimB b with
 | false =>
  rw [h1] at HB1
  clear h1
  go_wp2_with (first | (go_at_call 8; refine (HB1.out _ (HX0.out.trans hq)).mono ?_; rintro e w' ⟨rfl, hx1⟩; replace hq := hq.trans hx1; clear hx1 z0 z1 z2 z3; obtain ⟨z0, z1, z2, z3⟩ := HS.out _ hq) | (go_at_call 10; refine (HB.out.known _ (HX0.out.trans hq)).mono ?_; rintro e w' ⟨rfl, hx1⟩; replace hq := hq.trans hx1; clear hx1 z0 z1 z2 z3; obtain ⟨z0, z1, z2, z3⟩ := HS.out _ hq))
  go_ret
  exact ⟨rfl, HX0.out.trans hq⟩
 | true =>
  rw [h1] at HB1
  cases h2 : briefB s with
  | false =>
   rw [h2] at HBR
   clear h1 h2
   go_wp2_with (first | (go_at_call 8; refine (HB1.out _ (HX0.out.trans hq)).mono ?_; rintro e w' ⟨rfl, hx1⟩; replace hq := hq.trans hx1; clear hx1 z0 z1 z2 z3; obtain ⟨z0, z1, z2, z3⟩ := HS.out _ hq) | (go_at_call 9; refine (HBR.out _ (HX0.out.trans hq)).mono ?_; rintro e w' ⟨rfl, hx1⟩; replace hq := hq.trans hx1; clear hx1 z0 z1 z2 z3; obtain ⟨z0, z1, z2, z3⟩ := HS.out _ hq) | (go_at_call 10; refine (HB.out.known _ (HX0.out.trans hq)).mono ?_; rintro e w' ⟨rfl, hx1⟩; replace hq := hq.trans hx1; clear hx1 z0 z1 z2 z3; obtain ⟨z0, z1, z2, z3⟩ := HS.out _ hq))
   go_ret
   exact ⟨rfl, HX0.out.trans hq⟩
  | true =>
   rw [h2] at HBR
   cases h3 : isBookB b with
   | false =>
    rw [h3] at HB2
    have HF := Lib.hid (fun w1 (h : Ext w w1) => (show Calls Tryz.prog 11 _ w1 (fun e w' => e = .returned (.tuple #[.int .i64 0, .int .i64 0, .int .i64 2]) ∧ Ext w1 w') from (HFI.out w1 h).mono (fun e w' q => by unfold TestsRes at q; rw [show askN b s (inB m 0 4) = 2 by unfold askN askArg; simp [h3]] at q; exact q)))
    clear h1 h2 h3
    go_wp2_with (first | (go_at_call 8; refine (HB1.out _ (HX0.out.trans hq)).mono ?_; rintro e w' ⟨rfl, hx1⟩; replace hq := hq.trans hx1; clear hx1 z0 z1 z2 z3; obtain ⟨z0, z1, z2, z3⟩ := HS.out _ hq) | (go_at_call 9; refine (HBR.out _ (HX0.out.trans hq)).mono ?_; rintro e w' ⟨rfl, hx1⟩; replace hq := hq.trans hx1; clear hx1 z0 z1 z2 z3; obtain ⟨z0, z1, z2, z3⟩ := HS.out _ hq) | (go_at_call 11; refine (HF.out _ (HX0.out.trans hq)).mono ?_; rintro e w' ⟨rfl, hx1⟩; replace hq := hq.trans hx1; clear hx1 z0 z1 z2 z3; obtain ⟨z0, z1, z2, z3⟩ := HS.out _ hq) | (go_at_call 12; refine (HB2.out _ (HX0.out.trans hq)).mono ?_; rintro e w' ⟨rfl, hx1⟩; replace hq := hq.trans hx1; clear hx1 z0 z1 z2 z3; obtain ⟨z0, z1, z2, z3⟩ := HS.out _ hq) | (go_at_call 10; refine (HB.out.known _ (HX0.out.trans hq)).mono ?_; rintro e w' ⟨rfl, hx1⟩; replace hq := hq.trans hx1; clear hx1 z0 z1 z2 z3; obtain ⟨z0, z1, z2, z3⟩ := HS.out _ hq))
    go_ret
    exact ⟨rfl, HX0.out.trans hq⟩
   | true =>
    rw [h3] at HB2
    cases h4 : isSackB s with
    | false =>
     rw [h4] at HSA
     have HF := Lib.hid (fun w1 (h : Ext w w1) => (show Calls Tryz.prog 11 _ w1 (fun e w' => e = .returned (.tuple #[.int .i64 0, .int .i64 0, .int .i64 2]) ∧ Ext w1 w') from (HFI.out w1 h).mono (fun e w' q => by unfold TestsRes at q; rw [show askN b s (inB m 0 4) = 2 by unfold askN askArg; simp [h4]] at q; exact q)))
     clear h1 h2 h3 h4
     go_wp2_with (first | (go_at_call 8; refine (HB1.out _ (HX0.out.trans hq)).mono ?_; rintro e w' ⟨rfl, hx1⟩; replace hq := hq.trans hx1; clear hx1 z0 z1 z2 z3; obtain ⟨z0, z1, z2, z3⟩ := HS.out _ hq) | (go_at_call 9; refine (HBR.out _ (HX0.out.trans hq)).mono ?_; rintro e w' ⟨rfl, hx1⟩; replace hq := hq.trans hx1; clear hx1 z0 z1 z2 z3; obtain ⟨z0, z1, z2, z3⟩ := HS.out _ hq) | (go_at_call 11; refine (HF.out _ (HX0.out.trans hq)).mono ?_; rintro e w' ⟨rfl, hx1⟩; replace hq := hq.trans hx1; clear hx1 z0 z1 z2 z3; obtain ⟨z0, z1, z2, z3⟩ := HS.out _ hq) | (go_at_call 12; refine (HB2.out _ (HX0.out.trans hq)).mono ?_; rintro e w' ⟨rfl, hx1⟩; replace hq := hq.trans hx1; clear hx1 z0 z1 z2 z3; obtain ⟨z0, z1, z2, z3⟩ := HS.out _ hq) | (go_at_call 13; refine (HSA.out _ (HX0.out.trans hq)).mono ?_; rintro e w' ⟨rfl, hx1⟩; replace hq := hq.trans hx1; clear hx1 z0 z1 z2 z3; obtain ⟨z0, z1, z2, z3⟩ := HS.out _ hq) | (go_at_call 10; refine (HB.out.known _ (HX0.out.trans hq)).mono ?_; rintro e w' ⟨rfl, hx1⟩; replace hq := hq.trans hx1; clear hx1 z0 z1 z2 z3; obtain ⟨z0, z1, z2, z3⟩ := HS.out _ hq))
     go_ret
     exact ⟨rfl, HX0.out.trans hq⟩
    | true =>
     rw [h4] at HSA
     cases h5 : decide (m < 0) with
     | true =>
      have h5' := of_decide_eq_true h5
      have HF := Lib.hid (fun w1 (h : Ext w w1) => (show Calls Tryz.prog 11 _ w1 (fun e w' => e = .returned (.tuple #[.int .i64 0, .int .i64 0, .int .i64 2]) ∧ Ext w1 w') from (HFI.out w1 h).mono (fun e w' q => by unfold TestsRes at q; rw [show askN b s (inB m 0 4) = 2 by unfold askN askArg; simp [show inB m 0 4 = false from by unfold inB; simp; omega]] at q; exact q)))
      clear h1 h2 h3 h4 h5'
      go_wp2_with (first | (go_at_call 8; refine (HB1.out _ (HX0.out.trans hq)).mono ?_; rintro e w' ⟨rfl, hx1⟩; replace hq := hq.trans hx1; clear hx1 z0 z1 z2 z3; obtain ⟨z0, z1, z2, z3⟩ := HS.out _ hq) | (go_at_call 9; refine (HBR.out _ (HX0.out.trans hq)).mono ?_; rintro e w' ⟨rfl, hx1⟩; replace hq := hq.trans hx1; clear hx1 z0 z1 z2 z3; obtain ⟨z0, z1, z2, z3⟩ := HS.out _ hq) | (go_at_call 11; refine (HF.out _ (HX0.out.trans hq)).mono ?_; rintro e w' ⟨rfl, hx1⟩; replace hq := hq.trans hx1; clear hx1 z0 z1 z2 z3; obtain ⟨z0, z1, z2, z3⟩ := HS.out _ hq) | (go_at_call 12; refine (HB2.out _ (HX0.out.trans hq)).mono ?_; rintro e w' ⟨rfl, hx1⟩; replace hq := hq.trans hx1; clear hx1 z0 z1 z2 z3; obtain ⟨z0, z1, z2, z3⟩ := HS.out _ hq) | (go_at_call 13; refine (HSA.out _ (HX0.out.trans hq)).mono ?_; rintro e w' ⟨rfl, hx1⟩; replace hq := hq.trans hx1; clear hx1 z0 z1 z2 z3; obtain ⟨z0, z1, z2, z3⟩ := HS.out _ hq) | (go_at_call 10; refine (HB.out.known _ (HX0.out.trans hq)).mono ?_; rintro e w' ⟨rfl, hx1⟩; replace hq := hq.trans hx1; clear hx1 z0 z1 z2 z3; obtain ⟨z0, z1, z2, z3⟩ := HS.out _ hq))
      go_ret
      exact ⟨rfl, HX0.out.trans hq⟩
     | false =>
      have h5' := of_decide_eq_false h5
      cases h6 : decide (4 < m) with
      | true =>
       have h6' := of_decide_eq_true h6
       have HF := Lib.hid (fun w1 (h : Ext w w1) => (show Calls Tryz.prog 11 _ w1 (fun e w' => e = .returned (.tuple #[.int .i64 0, .int .i64 0, .int .i64 2]) ∧ Ext w1 w') from (HFI.out w1 h).mono (fun e w' q => by unfold TestsRes at q; rw [show askN b s (inB m 0 4) = 2 by unfold askN askArg; simp [show inB m 0 4 = false from by unfold inB; simp; omega]] at q; exact q)))
       clear h1 h2 h3 h4 h5' h6'
       go_wp2_with (first | (go_at_call 8; refine (HB1.out _ (HX0.out.trans hq)).mono ?_; rintro e w' ⟨rfl, hx1⟩; replace hq := hq.trans hx1; clear hx1 z0 z1 z2 z3; obtain ⟨z0, z1, z2, z3⟩ := HS.out _ hq) | (go_at_call 9; refine (HBR.out _ (HX0.out.trans hq)).mono ?_; rintro e w' ⟨rfl, hx1⟩; replace hq := hq.trans hx1; clear hx1 z0 z1 z2 z3; obtain ⟨z0, z1, z2, z3⟩ := HS.out _ hq) | (go_at_call 11; refine (HF.out _ (HX0.out.trans hq)).mono ?_; rintro e w' ⟨rfl, hx1⟩; replace hq := hq.trans hx1; clear hx1 z0 z1 z2 z3; obtain ⟨z0, z1, z2, z3⟩ := HS.out _ hq) | (go_at_call 12; refine (HB2.out _ (HX0.out.trans hq)).mono ?_; rintro e w' ⟨rfl, hx1⟩; replace hq := hq.trans hx1; clear hx1 z0 z1 z2 z3; obtain ⟨z0, z1, z2, z3⟩ := HS.out _ hq) | (go_at_call 13; refine (HSA.out _ (HX0.out.trans hq)).mono ?_; rintro e w' ⟨rfl, hx1⟩; replace hq := hq.trans hx1; clear hx1 z0 z1 z2 z3; obtain ⟨z0, z1, z2, z3⟩ := HS.out _ hq) | (go_at_call 10; refine (HB.out.known _ (HX0.out.trans hq)).mono ?_; rintro e w' ⟨rfl, hx1⟩; replace hq := hq.trans hx1; clear hx1 z0 z1 z2 z3; obtain ⟨z0, z1, z2, z3⟩ := HS.out _ hq))
       go_ret
       exact ⟨rfl, HX0.out.trans hq⟩
      | false =>
       have h6' := of_decide_eq_false h6
       have hin : inB m 0 4 = true := inB_iff.2 ⟨by omega, by omega⟩
       have hB := bookB_of h3
       have hS := sackB_of h4
       have HTU := Lib.hid (fun w1 (h : Ext w w1) => HTR.out hB hS w1 h)
       have HPT := Lib.hid (And.intro (pats_two hB hS) (pats_len b s))
       have n2 := hS.n2
       cases h7 : possB b s with
       | false =>
        rw [h7] at HTU
        have HF := Lib.hid (fun w1 (h : Ext w w1) => (show Calls Tryz.prog 11 _ w1 (fun e w' => e = .returned (.tuple #[.int .i64 0, .int .i64 0, .int .i64 7]) ∧ Ext w1 w') from (HFI.out w1 h).mono (fun e w' q => by unfold TestsRes at q; rw [show askN b s (inB m 0 4) = 7 by unfold askN askArg; simp [h3, h4, h7, hin]] at q; exact q)))
        clear h1 h2 h3 h4 h5' h6' hin hB hS n2
        go_upto_region 6 with (first | (go_at_call 8; refine (HB1.out _ (HX0.out.trans hq)).mono ?_; rintro e w' ⟨rfl, hx1⟩; replace hq := hq.trans hx1; clear hx1 z0 z1 z2 z3; obtain ⟨z0, z1, z2, z3⟩ := HS.out _ hq) | (go_at_call 9; refine (HBR.out _ (HX0.out.trans hq)).mono ?_; rintro e w' ⟨rfl, hx1⟩; replace hq := hq.trans hx1; clear hx1 z0 z1 z2 z3; obtain ⟨z0, z1, z2, z3⟩ := HS.out _ hq) | (go_at_call 11; refine (HF.out _ (HX0.out.trans hq)).mono ?_; rintro e w' ⟨rfl, hx1⟩; replace hq := hq.trans hx1; clear hx1 z0 z1 z2 z3; obtain ⟨z0, z1, z2, z3⟩ := HS.out _ hq) | (go_at_call 12; refine (HB2.out _ (HX0.out.trans hq)).mono ?_; rintro e w' ⟨rfl, hx1⟩; replace hq := hq.trans hx1; clear hx1 z0 z1 z2 z3; obtain ⟨z0, z1, z2, z3⟩ := HS.out _ hq) | (go_at_call 13; refine (HSA.out _ (HX0.out.trans hq)).mono ?_; rintro e w' ⟨rfl, hx1⟩; replace hq := hq.trans hx1; clear hx1 z0 z1 z2 z3; obtain ⟨z0, z1, z2, z3⟩ := HS.out _ hq))
        go_upto_region 7 with (go_at_call 14; refine (HTU.out _ (HX0.out.trans hq)).mono ?_; rintro e w4 ⟨og, oc, wg, wc, pg, rfl, hta, hx4⟩; have HTA := Lib.hid hta; clear hta)
        obtain ⟨WA, hWA⟩ : ∃ WA, WA = w4.alloc (.cells #[.bool false, .slice (some ⟨og, 0, none⟩) s.shells.length oc, .slice (some ⟨wg, 0, none⟩) b.rivers.length wc, .slice (some ⟨pg, 0, none⟩) (2 ^ s.shells.length) (2 ^ s.shells.length)] 39) := ⟨_, rfl⟩
        have hxa : Ext w4 WA := by rw [hWA]; exact (Ext.refl w4).alloc _
        have a0 : WA.cell? ⟨w4.heap.size, 0, none⟩ = some (.bool false) := by rw [hWA]; go_simp
        have a3 : WA.cell? ⟨w4.heap.size, 3, none⟩ = some (.slice (some ⟨pg, 0, none⟩) (2 ^ s.shells.length) (2 ^ s.shells.length)) := by rw [hWA]; go_simp
        rw [← hWA]
        clear hWA z0 z1 z2 z3
        replace hq := hq.trans (hx4.trans hxa)
        obtain ⟨z0, z1, z2, z3⟩ := HS.out _ hq
        clear hx4 HTA
        go_wp2_with (first | (go_at_call 10; refine (HB.out.known _ (HX0.out.trans hq)).mono ?_; rintro e w' ⟨rfl, hx1⟩; replace hq := hq.trans hx1; clear hx1))
        go_ret
        exact ⟨rfl, HX0.out.trans hq⟩
       | true =>
        rw [h7] at HTU
        have ha0 : askN b s (inB m 0 4) = 0 := by unfold askN askArg; simp [h3, h4, h7, hin]
        obtain ⟨y, n, hyn⟩ : ∃ y n, refT m (patternsOf b s) = (n, y) := ⟨_, _, rfl⟩
        have HRT := Lib.hid (fun w1 (v : Value) (h : MarksAt w1 v (2 ^ s.shells.length) (patternsOf b s)) => hyn ▸ rtests_any s.shells.length m n2 16 (patternsOf b s) v w1 HPT.out.2 h HPT.out.1 HPT.out.2)
        cases hk : knownB m (patternsOf b s) with
        | true =>
         have HF := Lib.hid (fun w1 (h : Ext w w1) => (show Calls Tryz.prog 11 _ w1 (fun e w' => e = .returned (.tuple #[.int .i64 0, .int .i64 0, .int .i64 5]) ∧ Ext w1 w') from (HFI.out w1 h).mono (fun e w' q => by unfold TestsRes at q; rw [if_pos ha0, hk] at q; exact q)))
         have hyn' := hyn
         unfold refT at hyn'
         rw [hk] at hyn'
         cases hyn'
         clear h1 h2 h3 h4 h5' h6' hin hB hS n2 hyn ha0 hk HFI
         go_upto_region 6 with (first | (go_at_call 8; refine (HB1.out _ (HX0.out.trans hq)).mono ?_; rintro e w' ⟨rfl, hx1⟩; replace hq := hq.trans hx1; clear hx1 z0 z1 z2 z3; obtain ⟨z0, z1, z2, z3⟩ := HS.out _ hq) | (go_at_call 9; refine (HBR.out _ (HX0.out.trans hq)).mono ?_; rintro e w' ⟨rfl, hx1⟩; replace hq := hq.trans hx1; clear hx1 z0 z1 z2 z3; obtain ⟨z0, z1, z2, z3⟩ := HS.out _ hq) | (go_at_call 11; refine (HF.out _ (HX0.out.trans hq)).mono ?_; rintro e w' ⟨rfl, hx1⟩; replace hq := hq.trans hx1; clear hx1 z0 z1 z2 z3; obtain ⟨z0, z1, z2, z3⟩ := HS.out _ hq) | (go_at_call 12; refine (HB2.out _ (HX0.out.trans hq)).mono ?_; rintro e w' ⟨rfl, hx1⟩; replace hq := hq.trans hx1; clear hx1 z0 z1 z2 z3; obtain ⟨z0, z1, z2, z3⟩ := HS.out _ hq) | (go_at_call 13; refine (HSA.out _ (HX0.out.trans hq)).mono ?_; rintro e w' ⟨rfl, hx1⟩; replace hq := hq.trans hx1; clear hx1 z0 z1 z2 z3; obtain ⟨z0, z1, z2, z3⟩ := HS.out _ hq))
         go_upto_region 7 with (go_at_call 14; refine (HTU.out _ (HX0.out.trans hq)).mono ?_; rintro e w4 ⟨og, oc, wg, wc, pg, rfl, hta, hx4⟩; have HTA := Lib.hid hta; clear hta)
         obtain ⟨WA, hWA⟩ : ∃ WA, WA = w4.alloc (.cells #[.bool true, .slice (some ⟨og, 0, none⟩) s.shells.length oc, .slice (some ⟨wg, 0, none⟩) b.rivers.length wc, .slice (some ⟨pg, 0, none⟩) (2 ^ s.shells.length) (2 ^ s.shells.length)] 39) := ⟨_, rfl⟩
         have hxa : Ext w4 WA := by rw [hWA]; exact (Ext.refl w4).alloc _
         have a0 : WA.cell? ⟨w4.heap.size, 0, none⟩ = some (.bool true) := by rw [hWA]; go_simp
         have a3 : WA.cell? ⟨w4.heap.size, 3, none⟩ = some (.slice (some ⟨pg, 0, none⟩) (2 ^ s.shells.length) (2 ^ s.shells.length)) := by rw [hWA]; go_simp
         rw [← hWA]
         clear hWA z0 z1 z2 z3
         replace hq := hq.trans (hx4.trans hxa)
         obtain ⟨z0, z1, z2, z3⟩ := HS.out _ hq
         clear hx4
         go_wp2_with (first | (go_at_call 15; refine (HRT.out _ _ (HTA.out.pat.ext hxa)).mono ?_; rintro e w' ⟨rfl, hx1⟩; replace hq := hq.trans hx1; clear hx1 HRT) | (go_at_call 10; refine (HB.out.known _ (HX0.out.trans hq)).mono ?_; rintro e w' ⟨rfl, hx1⟩; replace hq := hq.trans hx1; clear hx1))
         go_ret
         exact ⟨rfl, HX0.out.trans hq⟩
        | false =>
         obtain ⟨t', ht', hsp, hbe, _, _⟩ := best_spec n2 HPT.out.1 hk
         have hyn' := hyn
         unfold refT at hyn'
         rw [hk, hbe] at hyn'
         cases hyn'
         have HF := Lib.hid (fun w1 (h : Ext w w1) => (show Calls Tryz.prog 11 _ w1 (fun e w' => e = .returned (.tuple #[.int .i64 (t' : Int), .int .i64 _, .int .i64 0]) ∧ Ext w1 w') from (HFI.out w1 h).mono (fun e w' q => by unfold TestsRes at q; rw [if_pos ha0, hk, hbe] at q; exact q)))
         have hy0 : decide ((t' : Int) < 0) = false := by simp
         generalize askN1 m (patternsOf b s) t' = n at *
         clear h1 h2 h3 h4 h5' h6' hin hB hS n2 hyn ha0 hk HFI hbe hsp ht'
         go_upto_region 6 with (first | (go_at_call 8; refine (HB1.out _ (HX0.out.trans hq)).mono ?_; rintro e w' ⟨rfl, hx1⟩; replace hq := hq.trans hx1; clear hx1 z0 z1 z2 z3; obtain ⟨z0, z1, z2, z3⟩ := HS.out _ hq) | (go_at_call 9; refine (HBR.out _ (HX0.out.trans hq)).mono ?_; rintro e w' ⟨rfl, hx1⟩; replace hq := hq.trans hx1; clear hx1 z0 z1 z2 z3; obtain ⟨z0, z1, z2, z3⟩ := HS.out _ hq) | (go_at_call 11; refine (HF.out _ (HX0.out.trans hq)).mono ?_; rintro e w' ⟨rfl, hx1⟩; replace hq := hq.trans hx1; clear hx1 z0 z1 z2 z3; obtain ⟨z0, z1, z2, z3⟩ := HS.out _ hq) | (go_at_call 12; refine (HB2.out _ (HX0.out.trans hq)).mono ?_; rintro e w' ⟨rfl, hx1⟩; replace hq := hq.trans hx1; clear hx1 z0 z1 z2 z3; obtain ⟨z0, z1, z2, z3⟩ := HS.out _ hq) | (go_at_call 13; refine (HSA.out _ (HX0.out.trans hq)).mono ?_; rintro e w' ⟨rfl, hx1⟩; replace hq := hq.trans hx1; clear hx1 z0 z1 z2 z3; obtain ⟨z0, z1, z2, z3⟩ := HS.out _ hq))
         go_upto_region 7 with (go_at_call 14; refine (HTU.out _ (HX0.out.trans hq)).mono ?_; rintro e w4 ⟨og, oc, wg, wc, pg, rfl, hta, hx4⟩; have HTA := Lib.hid hta; clear hta)
         obtain ⟨WA, hWA⟩ : ∃ WA, WA = w4.alloc (.cells #[.bool true, .slice (some ⟨og, 0, none⟩) s.shells.length oc, .slice (some ⟨wg, 0, none⟩) b.rivers.length wc, .slice (some ⟨pg, 0, none⟩) (2 ^ s.shells.length) (2 ^ s.shells.length)] 39) := ⟨_, rfl⟩
         have hxa : Ext w4 WA := by rw [hWA]; exact (Ext.refl w4).alloc _
         have a0 : WA.cell? ⟨w4.heap.size, 0, none⟩ = some (.bool true) := by rw [hWA]; go_simp
         have a3 : WA.cell? ⟨w4.heap.size, 3, none⟩ = some (.slice (some ⟨pg, 0, none⟩) (2 ^ s.shells.length) (2 ^ s.shells.length)) := by rw [hWA]; go_simp
         rw [← hWA]
         clear hWA z0 z1 z2 z3
         replace hq := hq.trans (hx4.trans hxa)
         obtain ⟨z0, z1, z2, z3⟩ := HS.out _ hq
         clear hx4
         go_wp2_with (first | (go_at_call 15; refine (HRT.out _ _ (HTA.out.pat.ext hxa)).mono ?_; rintro e w' ⟨rfl, hx1⟩; replace hq := hq.trans hx1; clear hx1 HRT) | (go_at_call 10; refine (HB.out.known _ (HX0.out.trans hq)).mono ?_; rintro e w' ⟨rfl, hx1⟩; replace hq := hq.trans hx1; clear hx1))
         go_ret
         exact ⟨rfl, HX0.out.trans hq⟩
end Go.Proofs.YtdmdabhdcpjkiaaGreatDoor
