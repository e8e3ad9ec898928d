/- The law RiverRuns. -/
import Derived.Test.YtnhpibnneidmgaaGreatDoorLawb
import Derived.Test.YtnhpibnneidmgaaGreatDoorRfits
import Derived.Test.YtnhpibnneidmgaaGreatDoorFitv
namespace Go.Proofs.YtnhpibnneidmgaaGreatDoor
open Go.RowKit
set_option maxRecDepth 100000 in
set_option maxHeartbeats 8000000 in
theorem riverRuns_any (bv : Value) (b : Book) (sv : Value) (s : Sack) (xv : Value) (x : Truth) (w : World) (hb : BookAt w bv b) (hs : SackAt w sv s) (hx : TruthAt w xv x) (ht : TabOk w) :
  Calls Tryz.prog 7 #[bv, sv, xv] w (TrueP w) := by
 have HB := Lib.hid (LawB.of hb ht)
 have HBR := Lib.hid (fun w1 (h : Ext w w1) => brief_any sv s w1 (hs.ext h))
 have HSH := Lib.hid (fun w1 (h : Ext w w1) => short_any xv x w1 (hx.ext h))
 have HFI := Lib.hid (fun w1 (h : Ext w w1) => Fits_any bv sv xv b s x w1 (hb.ext h) (hs.ext h) (hx.ext h))
 have HSA := Lib.hid (fun w1 (h : Ext w w1) => rsack_any sv s w1 (hs.ext h))
 have HTR := Lib.hid (fun w1 (h : Ext w w1) => rtruth_any bv sv xv b s x w1 (hb.ext h) (hs.ext h) (hx.ext h))
 have HR := Lib.hid (fun h1 h2 h3 w1 (h : Ext w w1) => rfits_any bv sv xv b s x w1 (hb.ext h) (hs.ext h) (hx.ext h) h1 h2 h3)
 obtain ⟨ra, rc, rfl, _⟩ := hb.slice
 obtain ⟨sa, sc, ta, tc, rfl, _⟩ := hs.slice
 obtain ⟨wv, ov, rfl, hw, ho⟩ := hx
 obtain ⟨wa, wc, rfl, _⟩ := hw.open
 obtain ⟨oa, oc, rfl, _⟩ := ho.open
 obtain ⟨W0, hW0⟩ : ∃ W0, W0 = ((w.alloc (.cells #[.int .i64 b.years, .slice ra b.rivers.length rc] 24)).alloc (.cells #[.slice sa s.shells.length sc, .slice ta s.tests.length tc] 28)).alloc (.cells #[.slice wa x.wea.length wc, .slice oa x.org.length oc] 81) := ⟨_, rfl⟩
 have HX0 := Lib.hid (show Ext w W0 by rw [hW0]; exact (((Ext.refl w).alloc _).alloc _).alloc _)
 have HS := Lib.hid (fun W (h : Ext W0 W) => (⟨h.cell (by rw [hW0]; go_simp), h.cell (by rw [hW0]; go_simp), h.cell (by rw [hW0]; go_simp), h.cell (by rw [hW0]; go_simp), h.cell (by rw [hW0]; go_simp), h.cell (by rw [hW0]; go_simp)⟩ :
  W.cell? ⟨w.heap.size, 0, none⟩ = some (.int .i64 b.years) ∧ W.cell? ⟨w.heap.size, 1, none⟩ = some (.slice ra b.rivers.length rc) ∧ W.cell? ⟨w.heap.size + 1, 0, none⟩ = some (.slice sa s.shells.length sc) ∧ W.cell? ⟨w.heap.size + 1, 1, none⟩ = some (.slice ta s.tests.length tc) ∧ W.cell? ⟨w.heap.size + 2, 0, none⟩ = some (.slice wa x.wea.length wc) ∧ W.cell? ⟨w.heap.size + 2, 1, none⟩ = some (.slice oa x.org.length oc)))
 clear hb ht hs hw ho
 go_enter Tryz.func7, Tryz.ntmps7
 go_upto_region 1 with fail
 rw [← hW0]
 clear hW0
 have hq := Ext.refl W0
 obtain ⟨z0, z1, z2, z3, z4, z5⟩ := HS.out _ hq
 cases h1 : slimB b with
 | false =>
  have HB1 := Lib.hid (fun w1 (h : Ext w w1) => h1 ▸ HB.out.slim w1 h)
  go_wp2_with (first | (go_at_call 13; refine (HB1.out _ (HX0.out.trans hq)).mono ?_; rintro e w' ⟨rfl, hx1⟩; replace hq := hq.trans hx1; clear hx1 z0 z1 z2 z3 z4 z5; obtain ⟨z0, z1, z2, z3, z4, z5⟩ := HS.out _ hq) | (go_at_call 19; refine (HB.out.known _ (HX0.out.trans hq)).mono ?_; rintro e w' ⟨rfl, hx1⟩; replace hq := hq.trans hx1; clear hx1 z0 z1 z2 z3 z4 z5; obtain ⟨z0, z1, z2, z3, z4, z5⟩ := HS.out _ hq))
  go_ret
  exact ⟨rfl, HX0.out.trans hq⟩
 | true =>
  have HB1 := Lib.hid (fun w1 (h : Ext w w1) => h1 ▸ HB.out.slim w1 h)
  cases h2 : briefB s with
  | false =>
   rw [h2] at HBR
   go_wp2_with (first | (go_at_call 13; refine (HB1.out _ (HX0.out.trans hq)).mono ?_; rintro e w' ⟨rfl, hx1⟩; replace hq := hq.trans hx1; clear hx1 z0 z1 z2 z3 z4 z5; obtain ⟨z0, z1, z2, z3, z4, z5⟩ := HS.out _ hq) | (go_at_call 14; refine (HBR.out _ (HX0.out.trans hq)).mono ?_; rintro e w' ⟨rfl, hx1⟩; replace hq := hq.trans hx1; clear hx1 z0 z1 z2 z3 z4 z5; obtain ⟨z0, z1, z2, z3, z4, z5⟩ := HS.out _ hq) | (go_at_call 19; refine (HB.out.known _ (HX0.out.trans hq)).mono ?_; rintro e w' ⟨rfl, hx1⟩; replace hq := hq.trans hx1; clear hx1 z0 z1 z2 z3 z4 z5; obtain ⟨z0, z1, z2, z3, z4, z5⟩ := HS.out _ hq))
   go_ret
   exact ⟨rfl, HX0.out.trans hq⟩
  | true =>
   rw [h2] at HBR
   cases h3 : shortB x with
   | false =>
    rw [h3] at HSH
    go_wp2_with (first | (go_at_call 13; refine (HB1.out _ (HX0.out.trans hq)).mono ?_; rintro e w' ⟨rfl, hx1⟩; replace hq := hq.trans hx1; clear hx1 z0 z1 z2 z3 z4 z5; obtain ⟨z0, z1, z2, z3, z4, z5⟩ := HS.out _ hq) | (go_at_call 14; refine (HBR.out _ (HX0.out.trans hq)).mono ?_; rintro e w' ⟨rfl, hx1⟩; replace hq := hq.trans hx1; clear hx1 z0 z1 z2 z3 z4 z5; obtain ⟨z0, z1, z2, z3, z4, z5⟩ := HS.out _ hq) | (go_at_call 37; refine (HSH.out _ (HX0.out.trans hq)).mono ?_; rintro e w' ⟨rfl, hx1⟩; replace hq := hq.trans hx1; clear hx1 z0 z1 z2 z3 z4 z5; obtain ⟨z0, z1, z2, z3, z4, z5⟩ := HS.out _ hq) | (go_at_call 19; refine (HB.out.known _ (HX0.out.trans hq)).mono ?_; rintro e w' ⟨rfl, hx1⟩; replace hq := hq.trans hx1; clear hx1 z0 z1 z2 z3 z4 z5; obtain ⟨z0, z1, z2, z3, z4, z5⟩ := HS.out _ hq))
    go_ret
    exact ⟨rfl, HX0.out.trans hq⟩
   | true =>
    rw [h3] at HSH
    cases h4 : isBookB b with
    | false =>
     have HB2 := Lib.hid (fun w1 (h : Ext w w1) => h4 ▸ HB.out.book w1 h)
     have HF := Lib.hid (fun w1 (h : Ext w w1) => (show Calls Tryz.prog 38 _ w1 (fun e w' => e = .returned (.tuple #[.bool false, .int .i64 2]) ∧ Ext w1 w') from (HFI.out w1 h).mono (fun e w' q => by unfold FitsRes at q; rw [show fitsArg b s x = false by unfold fitsArg; simp [h4]] at q; exact q)))
     clear h1 h2 h3 h4
     go_wp2_with (first | (go_at_call 13; refine (HB1.out _ (HX0.out.trans hq)).mono ?_; rintro e w' ⟨rfl, hx1⟩; replace hq := hq.trans hx1; clear hx1 z0 z1 z2 z3 z4 z5; obtain ⟨z0, z1, z2, z3, z4, z5⟩ := HS.out _ hq) | (go_at_call 14; refine (HBR.out _ (HX0.out.trans hq)).mono ?_; rintro e w' ⟨rfl, hx1⟩; replace hq := hq.trans hx1; clear hx1 z0 z1 z2 z3 z4 z5; obtain ⟨z0, z1, z2, z3, z4, z5⟩ := HS.out _ hq) | (go_at_call 37; refine (HSH.out _ (HX0.out.trans hq)).mono ?_; rintro e w' ⟨rfl, hx1⟩; replace hq := hq.trans hx1; clear hx1 z0 z1 z2 z3 z4 z5; obtain ⟨z0, z1, z2, z3, z4, z5⟩ := HS.out _ hq) | (go_at_call 38; refine (HF.out _ (HX0.out.trans hq)).mono ?_; rintro e w' ⟨rfl, hx1⟩; replace hq := hq.trans hx1; clear hx1 z0 z1 z2 z3 z4 z5; obtain ⟨z0, z1, z2, z3, z4, z5⟩ := HS.out _ hq) | (go_at_call 15; refine (HB2.out _ (HX0.out.trans hq)).mono ?_; rintro e w' ⟨rfl, hx1⟩; replace hq := hq.trans hx1; clear hx1 z0 z1 z2 z3 z4 z5; obtain ⟨z0, z1, z2, z3, z4, z5⟩ := HS.out _ hq) | (go_at_call 19; refine (HB.out.known _ (HX0.out.trans hq)).mono ?_; rintro e w' ⟨rfl, hx1⟩; replace hq := hq.trans hx1; clear hx1 z0 z1 z2 z3 z4 z5; obtain ⟨z0, z1, z2, z3, z4, z5⟩ := HS.out _ hq))
     go_ret
     exact ⟨rfl, HX0.out.trans hq⟩
    | true =>
     have HB2 := Lib.hid (fun w1 (h : Ext w w1) => h4 ▸ HB.out.book w1 h)
     cases h5 : isSackB s with
     | false =>
      rw [h5] at HSA
      have HF := Lib.hid (fun w1 (h : Ext w w1) => (show Calls Tryz.prog 38 _ w1 (fun e w' => e = .returned (.tuple #[.bool false, .int .i64 2]) ∧ Ext w1 w') from (HFI.out w1 h).mono (fun e w' q => by unfold FitsRes at q; rw [show fitsArg b s x = false by unfold fitsArg; simp [h5]] at q; exact q)))
      clear h1 h2 h3 h4 h5
      go_wp2_with (first | (go_at_call 13; refine (HB1.out _ (HX0.out.trans hq)).mono ?_; rintro e w' ⟨rfl, hx1⟩; replace hq := hq.trans hx1; clear hx1 z0 z1 z2 z3 z4 z5; obtain ⟨z0, z1, z2, z3, z4, z5⟩ := HS.out _ hq) | (go_at_call 14; refine (HBR.out _ (HX0.out.trans hq)).mono ?_; rintro e w' ⟨rfl, hx1⟩; replace hq := hq.trans hx1; clear hx1 z0 z1 z2 z3 z4 z5; obtain ⟨z0, z1, z2, z3, z4, z5⟩ := HS.out _ hq) | (go_at_call 37; refine (HSH.out _ (HX0.out.trans hq)).mono ?_; rintro e w' ⟨rfl, hx1⟩; replace hq := hq.trans hx1; clear hx1 z0 z1 z2 z3 z4 z5; obtain ⟨z0, z1, z2, z3, z4, z5⟩ := HS.out _ hq) | (go_at_call 38; refine (HF.out _ (HX0.out.trans hq)).mono ?_; rintro e w' ⟨rfl, hx1⟩; replace hq := hq.trans hx1; clear hx1 z0 z1 z2 z3 z4 z5; obtain ⟨z0, z1, z2, z3, z4, z5⟩ := HS.out _ hq) | (go_at_call 15; refine (HB2.out _ (HX0.out.trans hq)).mono ?_; rintro e w' ⟨rfl, hx1⟩; replace hq := hq.trans hx1; clear hx1 z0 z1 z2 z3 z4 z5; obtain ⟨z0, z1, z2, z3, z4, z5⟩ := HS.out _ hq) | (go_at_call 16; refine (HSA.out _ (HX0.out.trans hq)).mono ?_; rintro e w' ⟨rfl, hx1⟩; replace hq := hq.trans hx1; clear hx1 z0 z1 z2 z3 z4 z5; obtain ⟨z0, z1, z2, z3, z4, z5⟩ := HS.out _ hq) | (go_at_call 19; refine (HB.out.known _ (HX0.out.trans hq)).mono ?_; rintro e w' ⟨rfl, hx1⟩; replace hq := hq.trans hx1; clear hx1 z0 z1 z2 z3 z4 z5; obtain ⟨z0, z1, z2, z3, z4, z5⟩ := HS.out _ hq))
      go_ret
      exact ⟨rfl, HX0.out.trans hq⟩
     | true =>
      rw [h5] at HSA
      cases h6 : truthB b s x with
      | false =>
       rw [h6] at HTR
       have HF := Lib.hid (fun w1 (h : Ext w w1) => (show Calls Tryz.prog 38 _ w1 (fun e w' => e = .returned (.tuple #[.bool false, .int .i64 2]) ∧ Ext w1 w') from (HFI.out w1 h).mono (fun e w' q => by unfold FitsRes at q; rw [show fitsArg b s x = false by unfold fitsArg; simp [h6]] at q; exact q)))
       clear h1 h2 h3 h4 h5 h6
       go_wp2_with (first | (go_at_call 13; refine (HB1.out _ (HX0.out.trans hq)).mono ?_; rintro e w' ⟨rfl, hx1⟩; replace hq := hq.trans hx1; clear hx1 z0 z1 z2 z3 z4 z5; obtain ⟨z0, z1, z2, z3, z4, z5⟩ := HS.out _ hq) | (go_at_call 14; refine (HBR.out _ (HX0.out.trans hq)).mono ?_; rintro e w' ⟨rfl, hx1⟩; replace hq := hq.trans hx1; clear hx1 z0 z1 z2 z3 z4 z5; obtain ⟨z0, z1, z2, z3, z4, z5⟩ := HS.out _ hq) | (go_at_call 37; refine (HSH.out _ (HX0.out.trans hq)).mono ?_; rintro e w' ⟨rfl, hx1⟩; replace hq := hq.trans hx1; clear hx1 z0 z1 z2 z3 z4 z5; obtain ⟨z0, z1, z2, z3, z4, z5⟩ := HS.out _ hq) | (go_at_call 38; refine (HF.out _ (HX0.out.trans hq)).mono ?_; rintro e w' ⟨rfl, hx1⟩; replace hq := hq.trans hx1; clear hx1 z0 z1 z2 z3 z4 z5; obtain ⟨z0, z1, z2, z3, z4, z5⟩ := HS.out _ hq) | (go_at_call 15; refine (HB2.out _ (HX0.out.trans hq)).mono ?_; rintro e w' ⟨rfl, hx1⟩; replace hq := hq.trans hx1; clear hx1 z0 z1 z2 z3 z4 z5; obtain ⟨z0, z1, z2, z3, z4, z5⟩ := HS.out _ hq) | (go_at_call 16; refine (HSA.out _ (HX0.out.trans hq)).mono ?_; rintro e w' ⟨rfl, hx1⟩; replace hq := hq.trans hx1; clear hx1 z0 z1 z2 z3 z4 z5; obtain ⟨z0, z1, z2, z3, z4, z5⟩ := HS.out _ hq) | (go_at_call 39; refine (HTR.out _ (HX0.out.trans hq)).mono ?_; rintro e w' ⟨rfl, hx1⟩; replace hq := hq.trans hx1; clear hx1 z0 z1 z2 z3 z4 z5; obtain ⟨z0, z1, z2, z3, z4, z5⟩ := HS.out _ hq) | (go_at_call 19; refine (HB.out.known _ (HX0.out.trans hq)).mono ?_; rintro e w' ⟨rfl, hx1⟩; replace hq := hq.trans hx1; clear hx1 z0 z1 z2 z3 z4 z5; obtain ⟨z0, z1, z2, z3, z4, z5⟩ := HS.out _ hq))
       go_ret
       exact ⟨rfl, HX0.out.trans hq⟩
      | true =>
       rw [h6] at HTR
       have HF := Lib.hid (fun w1 (h : Ext w w1) => (show Calls Tryz.prog 38 _ w1 (fun e w' => e = .returned (.tuple #[.bool (fitsB b s x), .int .i64 0]) ∧ Ext w1 w') from (HFI.out w1 h).mono (fun e w' q => by unfold FitsRes at q; rw [show fitsArg b s x = true by unfold fitsArg; simp [h4, h5, h6]] at q; exact q)))
       have HRF := Lib.hid (fun w1 (h : Ext w w1) => HR.out h4 h5 h6 w1 h)
       clear h1 h2 h3 h4 h5 h6
       generalize fitsB b s x = fb at *
       cases fb
       all_goals
        go_wp2_with (first | (go_at_call 13; refine (HB1.out _ (HX0.out.trans hq)).mono ?_; rintro e w' ⟨rfl, hx1⟩; replace hq := hq.trans hx1; clear hx1 z0 z1 z2 z3 z4 z5; obtain ⟨z0, z1, z2, z3, z4, z5⟩ := HS.out _ hq) | (go_at_call 14; refine (HBR.out _ (HX0.out.trans hq)).mono ?_; rintro e w' ⟨rfl, hx1⟩; replace hq := hq.trans hx1; clear hx1 z0 z1 z2 z3 z4 z5; obtain ⟨z0, z1, z2, z3, z4, z5⟩ := HS.out _ hq) | (go_at_call 37; refine (HSH.out _ (HX0.out.trans hq)).mono ?_; rintro e w' ⟨rfl, hx1⟩; replace hq := hq.trans hx1; clear hx1 z0 z1 z2 z3 z4 z5; obtain ⟨z0, z1, z2, z3, z4, z5⟩ := HS.out _ hq) | (go_at_call 38; refine (HF.out _ (HX0.out.trans hq)).mono ?_; rintro e w' ⟨rfl, hx1⟩; replace hq := hq.trans hx1; clear hx1 z0 z1 z2 z3 z4 z5; obtain ⟨z0, z1, z2, z3, z4, z5⟩ := HS.out _ hq) | (go_at_call 15; refine (HB2.out _ (HX0.out.trans hq)).mono ?_; rintro e w' ⟨rfl, hx1⟩; replace hq := hq.trans hx1; clear hx1 z0 z1 z2 z3 z4 z5; obtain ⟨z0, z1, z2, z3, z4, z5⟩ := HS.out _ hq) | (go_at_call 16; refine (HSA.out _ (HX0.out.trans hq)).mono ?_; rintro e w' ⟨rfl, hx1⟩; replace hq := hq.trans hx1; clear hx1 z0 z1 z2 z3 z4 z5; obtain ⟨z0, z1, z2, z3, z4, z5⟩ := HS.out _ hq) | (go_at_call 39; refine (HTR.out _ (HX0.out.trans hq)).mono ?_; rintro e w' ⟨rfl, hx1⟩; replace hq := hq.trans hx1; clear hx1 z0 z1 z2 z3 z4 z5; obtain ⟨z0, z1, z2, z3, z4, z5⟩ := HS.out _ hq) | (go_at_call 40; refine (HRF.out _ (HX0.out.trans hq)).mono ?_; rintro e w' ⟨rfl, hx1⟩; replace hq := hq.trans hx1; clear hx1 z0 z1 z2 z3 z4 z5; obtain ⟨z0, z1, z2, z3, z4, z5⟩ := HS.out _ hq) | (go_at_call 19; refine (HB.out.known _ (HX0.out.trans hq)).mono ?_; rintro e w' ⟨rfl, hx1⟩; replace hq := hq.trans hx1; clear hx1 z0 z1 z2 z3 z4 z5; obtain ⟨z0, z1, z2, z3, z4, z5⟩ := HS.out _ hq))
        go_ret
        exact ⟨rfl, HX0.out.trans hq⟩
end Go.Proofs.YtnhpibnneidmgaaGreatDoor
