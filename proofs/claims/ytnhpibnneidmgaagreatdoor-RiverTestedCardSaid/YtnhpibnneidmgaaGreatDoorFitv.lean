/- The program's Fits. -/
import Derived.Test.YtnhpibnneidmgaaGreatDoorFitw
import Derived.Test.YtnhpibnneidmgaaGreatDoorFitd
namespace Go.Proofs.YtnhpibnneidmgaaGreatDoor
open Go.RowKit
def fitsArg (b : Book) (s : Sack) (x : Truth) : Bool := isBookB b && isSackB s && truthB b s x
def FitsRes (b : Book) (s : Sack) (x : Truth) (w : World) (e : Ending) (w' : World) : Prop := e = .returned (.tuple #[.bool (fitsArg b s x && fitsB b s x), .int .i64 (if fitsArg b s x then 0 else 2)]) ∧ Ext w w'
set_option maxRecDepth 100000 in
set_option maxHeartbeats 8000000 in
theorem Fits_no (bv sv xv : Value) (b : Book) (s : Sack) (x : Truth) (w : World) (hb : BookAt w bv b) (hs : SackAt w sv s) (hx : TruthAt w xv x) (hn : fitsArg b s x = false) :
  Calls Tryz.prog 38 #[bv, sv, xv] w (FitsRes b s x w) := by
 have HB := Lib.hid (fun w1 (h : Ext w w1) => isBook_any bv b w1 (hb.ext h))
 have HK := Lib.hid (fun w1 (h : Ext w w1) => isSack_any sv s w1 (hs.ext h))
 have HT := Lib.hid (fun w1 (h : Ext w w1) => isTruth_any bv sv xv b s x w1 (hb.ext h) (hs.ext h) (hx.ext h))
 obtain ⟨ra, rc, rfl, _⟩ := hb.slice
 obtain ⟨sa, sc, ta, tc, rfl, _⟩ := hs.slice
 obtain ⟨wv, ov, rfl, hw, ho⟩ := hx
 obtain ⟨wa, wc, rfl, _⟩ := hw.open
 obtain ⟨oa, oc, rfl, _⟩ := ho.open
 obtain ⟨W0, hW0⟩ : ∃ W0, W0 = ((w.alloc (.cells #[.int .i64 b.years, .slice ra b.rivers.length rc] 24)).alloc (.cells #[.slice sa s.shells.length sc, .slice ta s.tests.length tc] 28)).alloc (.cells #[.slice wa x.wea.length wc, .slice oa x.org.length oc] 81) := ⟨_, rfl⟩
 have HX0 := Lib.hid (show Ext w W0 by rw [hW0]; exact (((Ext.refl w).alloc _).alloc _).alloc _)
 have HS := Lib.hid (fun W (h : Ext W0 W) => (⟨h.cell (by rw [hW0]; go_simp), h.cell (by rw [hW0]; go_simp), h.cell (by rw [hW0]; go_simp), h.cell (by rw [hW0]; go_simp), h.cell (by rw [hW0]; go_simp), h.cell (by rw [hW0]; go_simp)⟩ :
  W.cell? ⟨w.heap.size, 0, none⟩ = some (.int .i64 b.years) ∧ W.cell? ⟨w.heap.size, 1, none⟩ = some (.slice ra b.rivers.length rc) ∧ W.cell? ⟨w.heap.size + 1, 0, none⟩ = some (.slice sa s.shells.length sc) ∧ W.cell? ⟨w.heap.size + 1, 1, none⟩ = some (.slice ta s.tests.length tc) ∧ W.cell? ⟨w.heap.size + 2, 0, none⟩ = some (.slice wa x.wea.length wc) ∧ W.cell? ⟨w.heap.size + 2, 1, none⟩ = some (.slice oa x.org.length oc)))
 have HR := Lib.hid (show FitsRes b s x = fun w e w' => e = .returned (.tuple #[.bool false, .int .i64 2]) ∧ Ext w w' by unfold FitsRes; rw [hn]; rfl)
 rw [HR.out]
 clear hb hs hw ho
 unfold fitsArg at hn
 go_enter Tryz.func38, Tryz.ntmps38
 go_upto_region 1 with fail
 rw [← hW0]
 clear hW0
 obtain ⟨z0, z1, z2, z3, z4, z5⟩ := HS.out _ (Ext.refl _)
 cases h1 : isBookB b with
 | false =>
  rw [h1] at HB
  clear hn h1
  go_wp2_with (go_at_call 62; refine (HB.out _ HX0.out).mono ?_; rintro e w1 ⟨rfl, hx1⟩)
  refine bodyPost_ret (by simp [results, Tryz.results38, go_sem] <;> rfl) rfl ?_
  exact ⟨rfl, HX0.out.trans hx1⟩
 | true =>
  rw [h1] at HB hn
  cases h2 : isSackB s with
  | false =>
   rw [h2] at HK
   clear hn h1 h2
   go_wp2_with (first | (go_at_call 62; refine (HB.out _ HX0.out).mono ?_; rintro e w1 ⟨rfl, hx1⟩; clear z0 z1 z2 z3 z4 z5; obtain ⟨z0, z1, z2, z3, z4, z5⟩ := HS.out _ hx1) | (go_at_call 78; refine (HK.out _ (HX0.out.trans hx1)).mono ?_; rintro e w2 ⟨rfl, hx2⟩))
   refine bodyPost_ret (by simp [results, Tryz.results38, go_sem] <;> rfl) rfl ?_
   exact ⟨rfl, (HX0.out.trans hx1).trans hx2⟩
  | true =>
   rw [h2] at HK hn
   have h3 : truthB b s x = false := by simpa using hn
   rw [h3] at HT
   clear hn h1 h2 h3
   go_wp2_with (first | (go_at_call 62; refine (HB.out _ HX0.out).mono ?_; rintro e w1 ⟨rfl, hx1⟩; clear z0 z1 z2 z3 z4 z5; obtain ⟨z0, z1, z2, z3, z4, z5⟩ := HS.out _ hx1) | (go_at_call 78; refine (HK.out _ (HX0.out.trans hx1)).mono ?_; rintro e w2 ⟨rfl, hx2⟩; clear z0 z1 z2 z3 z4 z5; obtain ⟨z0, z1, z2, z3, z4, z5⟩ := HS.out _ (hx1.trans hx2)) | (go_at_call 83; refine (HT.out _ ((HX0.out.trans hx1).trans hx2)).mono ?_; rintro e w3 ⟨rfl, hx3⟩))
   refine bodyPost_ret (by simp [results, Tryz.results38, go_sem] <;> rfl) rfl ?_
   exact ⟨rfl, ((HX0.out.trans hx1).trans hx2).trans hx3⟩
set_option maxRecDepth 100000 in
set_option maxHeartbeats 16000000 in
theorem Fits_yes (bv sv xv : Value) (b : Book) (s : Sack) (x : Truth) (w : World) (hb : BookAt w bv b) (hs : SackAt w sv s) (hx : TruthAt w xv x) (hn : fitsArg b s x = true) :
  Calls Tryz.prog 38 #[bv, sv, xv] w (FitsRes b s x w) := by
 have HR := Lib.hid (show FitsRes b s x = fun w e w' => e = .returned (.tuple #[.bool (fitsB b s x), .int .i64 0]) ∧ Ext w w' by unfold FitsRes; rw [hn]; rfl)
 unfold fitsArg at hn
 rw [Bool.and_eq_true, Bool.and_eq_true] at hn
 obtain ⟨⟨hn1, hn2⟩, hn3⟩ := hn
 have HBB := Lib.hid (bookB_of hn1)
 have HSB := Lib.hid (sackB_of hn2)
 have HB := Lib.hid (fun w1 (h : Ext w w1) => hn1 ▸ isBook_any bv b w1 (hb.ext h))
 have HK := Lib.hid (fun w1 (h : Ext w w1) => hn2 ▸ isSack_any sv s w1 (hs.ext h))
 have HT := Lib.hid (fun w1 (h : Ext w w1) => hn3 ▸ isTruth_any bv sv xv b s x w1 (hb.ext h) (hs.ext h) (hx.ext h))
 have HTR := Lib.hid (show (∀ l, l ∈ x.wea → (l.length : Int) = b.years) ∧ x.wea.length = b.rivers.length ∧ x.org.length = s.shells.length by
  unfold truthB at hn3
  rw [Bool.and_eq_true, Bool.and_eq_true, decide_eq_true_eq, decide_eq_true_eq, Bool.not_eq_true', List.any_eq_false] at hn3
  refine ⟨fun l hl => ?_, hn3.1.2, hn3.2⟩
  have := hn3.1.1 l hl
  simpa using this)
 clear hn1 hn2 hn3
 rw [HR.out]
 obtain ⟨ra, rc, rfl, hr⟩ := hb.slice
 obtain ⟨_, _, hv, r1, r2, r3⟩ := hr.open
 cases hv
 obtain ⟨sa, sc, ta, tc, rfl, hsh, hte⟩ := hs.slice
 obtain ⟨_, _, hv, s1, s2, s3⟩ := hsh.open
 cases hv
 obtain ⟨wv, ov, rfl, hw, ho⟩ := hx
 obtain ⟨wa, wc, rfl, w1, w2', w3⟩ := hw.open
 obtain ⟨oa, oc, rfl, o1, o2, o3⟩ := ho.open
 have H3 := Lib.hid r3
 have S3 := Lib.hid s3
 have W3 := Lib.hid w3
 have O3 := Lib.hid o3
 have HRW := Lib.hid (fun w1 (h : Ext w w1) => hr.ext h)
 have HTW := Lib.hid (fun w1 (h : Ext w w1) => RowOf.ext hte h)
 obtain ⟨W0, hW0⟩ : ∃ W0, W0 = ((w.alloc (.cells #[.int .i64 b.years, .slice ra b.rivers.length rc] 24)).alloc (.cells #[.slice sa s.shells.length sc, .slice ta s.tests.length tc] 28)).alloc (.cells #[.slice wa x.wea.length wc, .slice oa x.org.length oc] 81) := ⟨_, rfl⟩
 have HX0 := Lib.hid (show Ext w W0 by rw [hW0]; exact (((Ext.refl w).alloc _).alloc _).alloc _)
 have HZ := Lib.hid (show W0.heap.size = w.heap.size + 3 by rw [hW0]; simp [World.size_alloc])
 have HS := Lib.hid (fun W (h : Ext W0 W) => (⟨h.cell (by rw [hW0]; go_simp), h.cell (by rw [hW0]; go_simp), h.cell (by rw [hW0]; go_simp), h.cell (by rw [hW0]; go_simp), h.cell (by rw [hW0]; go_simp), h.cell (by rw [hW0]; go_simp)⟩ :
  W.cell? ⟨w.heap.size, 0, none⟩ = some (.int .i64 b.years) ∧ W.cell? ⟨w.heap.size, 1, none⟩ = some (.slice ra b.rivers.length rc) ∧ W.cell? ⟨w.heap.size + 1, 0, none⟩ = some (.slice sa s.shells.length sc) ∧ W.cell? ⟨w.heap.size + 1, 1, none⟩ = some (.slice ta s.tests.length tc) ∧ W.cell? ⟨w.heap.size + 2, 0, none⟩ = some (.slice wa x.wea.length wc) ∧ W.cell? ⟨w.heap.size + 2, 1, none⟩ = some (.slice oa x.org.length oc)))
 clear hb hs hw ho hr hsh hte r3 s3 w3 o3
 go_enter Tryz.func38, Tryz.ntmps38
 go_upto_region 1 with fail
 rw [← hW0]
 clear hW0
 obtain ⟨z0, z1, z2, z3, z4, z5⟩ := HS.out _ (Ext.refl _)
 go_wp2_with (first | (go_at_call 62; refine (HB.out _ HX0.out).mono ?_; rintro e w1 ⟨rfl, hx1⟩; clear z0 z1 z2 z3 z4 z5; obtain ⟨z0, z1, z2, z3, z4, z5⟩ := HS.out _ hx1) | (go_at_call 78; refine (HK.out _ (HX0.out.trans hx1)).mono ?_; rintro e w2 ⟨rfl, hx2⟩; clear z0 z1 z2 z3 z4 z5; obtain ⟨z0, z1, z2, z3, z4, z5⟩ := HS.out _ (hx1.trans hx2)) | (go_at_call 83; refine (HT.out _ ((HX0.out.trans hx1).trans hx2)).mono ?_; rintro e w3 ⟨rfl, hx3⟩; clear z0 z1 z2 z3 z4 z5; obtain ⟨z0, z1, z2, z3, z4, z5⟩ := HS.out _ ((hx1.trans hx2).trans hx3)))
 have HX3 := Lib.hid ((hx1.trans hx2).trans hx3)
 clear hx1 hx2 hx3 HB HK HT z0 z1 z2 z3 z4 z5
 go_loopw [35] (fun i wr => ∃ k : Nat, k ≤ b.rivers.length ∧ i = .int .i64 k ∧ Hid ((List.range k).all (weaOk b x.wea) = true) ∧ Ext W0 wr) (fun i _ => b.rivers.length - (intOf i).toNat)
 case atStart => exact ⟨0, Nat.zero_le _, rfl, by simp [Hid], HX3.out⟩
 case round =>
  clear HX3
  obtain ⟨k, hk, rfl, hall, hx⟩ := hrel
  obtain ⟨z0, z1, z2, z3, z4, z5⟩ := HS.out _ hx
  by_cases hlt : k < b.rivers.length
  ·obtain ⟨bb, bo, gv, R, rfl, hR, c0, c1, c2, hg⟩ := H3.out k hlt
   obtain ⟨lb, lo, lv, l, rfl, hl, c3, hli⟩ := W3.out k (by have := HTR.out.2.1; omega)
   have d0 := (HX0.out.trans hx).cell c0
   have d1 := (HX0.out.trans hx).cell c1
   have d2 := (HX0.out.trans hx).cell c2
   have x2 : decide ((k : Int) < (b.rivers.length : Int)) = true := by simpa using hlt
   have i1 : (0 : Int) ≤ (k : Int) := by omega
   have i2 : (k : Int) < (b.rivers.length : Int) := by omega
   have i3 : (k : Int) < (x.wea.length : Int) := by have := HTR.out.2.1; omega
   have hle : l.length = R.grow.length := by
    have h1 := HTR.out.1 l (List.mem_of_getElem? hl.out)
    have h2 := HBB.out.len R (List.mem_of_getElem? hR.out)
    omega
   obtain ⟨ga, gc, rfl, _⟩ := hg.open
   obtain ⟨la, lc, rfl, _⟩ := hli.open
   have HE := Lib.hid (fun w1 (h : Ext wr w1) => equalW_any (.slice la l.length lc) (.slice ga R.grow.length gc) l R.grow w1 (hli.ext ((HX0.out.trans hx).trans h)) (hg.ext ((HX0.out.trans hx).trans h)) hle)
   have hok := weaOk_in hR.out hl.out
   clear hle hg hli
   go_upto_region 6 with fail
   obtain ⟨wo, hwo⟩ : ∃ wo : World, wo = wr.alloc (.cells #[.slice ga R.grow.length gc, .int .i64 R.vary, .int .i64 R.closed] 89) := ⟨_, rfl⟩
   have HWO := Lib.hid (show Ext wr wo by rw [hwo]; exact (Ext.refl wr).alloc _)
   have HF := Lib.hid (fun W (h : Ext wo W) => (⟨HS.out W (hx.trans (HWO.out.trans h)), (HX0.out.trans (hx.trans (HWO.out.trans h))).cell c3, h.cell (by rw [hwo]; go_simp)⟩ : _ ∧ _ ∧ W.cell? ⟨wr.heap.size, 0, none⟩ = some (.slice ga R.grow.length gc)))
   rw [← hwo]
   clear hwo c0 c1 c2 c3 d0 d1 d2 z0 z1 z2 z3 z4 z5
   cases hq : weaOk b x.wea k with
   | true =>
    have HE2 := Lib.hid (fun w1 (h : Ext wr w1) => (hok.symm.trans hq) ▸ HE.out w1 h)
    have HN := Lib.hid (all_step hall.out hq)
    clear hq hok HE
    refine region_reads (C := fun W => Ext wo W) (by kernel_rfl) (by kernel_rfl) ((Ext.refl wo).drew) ?_
    repeat (first | go_big_quiet_skip | (go_big_quiet_want; go_big_quiet_op; first | go_big_quiet_on | (refine ⟨_, fun W hW => rfl, ?_⟩; go_big_quiet_on)) | (go_big_quiet_want; refine ⟨?_, fun W hW => ?_, ?_⟩; rotate_left; (· (obtain ⟨⟨z0, z1, z2, z3, z4, z5⟩, y0, y1⟩ := HF.out W hW); go_simp; (first | with_reducible rfl | (go_at_call 84; refine (HE2.out W (HWO.out.trans hW)).mono ?_; rintro e w' ⟨rfl, hx1⟩; constructor; with_reducible rfl; exact hW.trans hx1))); (try simp only [Act.put, yA, yB, yC]); go_big_quiet_on))
    refine wpQuiet_nil ?_
    intro wq hq
    go_wp2
    go_roundw
    case rel => exact ⟨k + 1, by omega, by go_num, HN, hx.trans (HWO.out.trans hq)⟩
    case measure => simp [intOf]; omega
   | false =>
    have HE2 := Lib.hid (fun w1 (h : Ext wr w1) => (hok.symm.trans hq) ▸ HE.out w1 h)
    have HN := Lib.hid (fits_no_wea (s := s) hlt hq)
    clear hq hok HE
    refine region_reads (C := fun W => Ext wo W) (by kernel_rfl) (by kernel_rfl) ((Ext.refl wo).drew) ?_
    repeat (first | go_big_quiet_skip | (go_big_quiet_want; go_big_quiet_op; first | go_big_quiet_on | (refine ⟨_, fun W hW => rfl, ?_⟩; go_big_quiet_on)) | (go_big_quiet_want; refine ⟨?_, fun W hW => ?_, ?_⟩; rotate_left; (· (obtain ⟨⟨z0, z1, z2, z3, z4, z5⟩, y0, y1⟩ := HF.out W hW); go_simp; (first | with_reducible rfl | (go_at_call 84; refine (HE2.out W (HWO.out.trans hW)).mono ?_; rintro e w' ⟨rfl, hx1⟩; constructor; with_reducible rfl; exact hW.trans hx1))); (try simp only [Act.put, yA, yB, yC]); go_big_quiet_on))
    refine wpQuiet_nil ?_
    intro wq hq
    go_wp2
    refine bodyPost_ret (by simp [results, Tryz.results38, go_sem] <;> rfl) rfl ?_
    exact ⟨by rw [HN.out] <;> rfl, HX0.out.trans (hx.trans (HWO.out.trans hq))⟩
  ·have x2 : decide ((k : Int) < (b.rivers.length : Int)) = false := by simp; omega
   have HALL := Lib.hid (show (List.range b.rivers.length).all (weaOk b x.wea) = true by have h := hall.out; rwa [show k = b.rivers.length by omega] at h)
   clear hall
   obtain ⟨y0, y1, y2, y3, y4, y5⟩ := HS.out _ (hx.alloc (.cells #[.int .i64 b.years, .slice ra b.rivers.length rc, .slice sa s.shells.length sc, .slice ta s.tests.length tc] 118))
   go_upto_region 11 with fail
   obtain ⟨wk, hwk⟩ : ∃ wk : World, wk = wr.alloc (.cells #[.int .i64 b.years, .slice ra b.rivers.length rc, .slice sa s.shells.length sc, .slice ta s.tests.length tc] 118) := ⟨_, rfl⟩
   have HXK := Lib.hid (show Ext W0 wk by rw [hwk]; exact hx.alloc _)
   have HSK := Lib.hid (fun W (h : Ext wk W) => (⟨HS.out W (HXK.out.trans h), h.cell (by rw [hwk]; go_simp), h.cell (by rw [hwk]; go_simp), h.cell (by rw [hwk]; go_simp), h.cell (by rw [hwk]; go_simp)⟩ : _ ∧
    W.cell? ⟨wr.heap.size, 0, none⟩ = some (.int .i64 b.years) ∧ W.cell? ⟨wr.heap.size, 1, none⟩ = some (.slice ra b.rivers.length rc) ∧ W.cell? ⟨wr.heap.size, 2, none⟩ = some (.slice sa s.shells.length sc) ∧ W.cell? ⟨wr.heap.size, 3, none⟩ = some (.slice ta s.tests.length tc)))
   rw [← hwk]
   have HX := Lib.hid (HX0.out.trans HXK.out)
   clear hwk hx hk hlt x2 z0 z1 z2 z3 z4 z5 y0 y1 y2 y3 y4 y5 HX0 HS
   generalize wr.heap.size = kb at *
   go_wp2
   go_loopw [59] (fun i wr => ∃ k : Nat, k ≤ x.org.length ∧ i = .int .i64 k ∧ Hid ((List.range k).all (fun i => orgOk b s x.wea i (x.org.getD i (0, 0))) = true) ∧ Ext wk wr) (fun i _ => x.org.length - (intOf i).toNat)
   case atStart => exact ⟨0, Nat.zero_le _, rfl, by simp [Hid], Ext.refl _⟩
   case round =>
    obtain ⟨k, hk, rfl, hall, hx⟩ := hrel
    obtain ⟨⟨z0, z1, z2, z3, z4, z5⟩, z6, z7, z8, z9⟩ := HSK.out _ hx
    by_cases hlt : k < x.org.length
    ·obtain ⟨ob, of, og, rfl, ho, c0, c1⟩ := O3.out k hlt
     have hks : k < s.shells.length := by have := HTR.out.2.2; omega
     obtain ⟨sb, sf, rv, sh, rfl, hsh, c2, c3, hri⟩ := S3.out k hks
     obtain ⟨ia, ic, rfl, g1, g2, g3⟩ := hri.open
     have x2 : decide ((k : Int) < (x.org.length : Int)) = true := by simpa using hlt
     have i1 : (0 : Int) ≤ (k : Int) := by omega
     have i2 : (k : Int) < (x.org.length : Int) := by omega
     have i3 : (k : Int) < (s.shells.length : Int) := by omega
     have HSB1 := Lib.hid (HSB.out.shell sh (List.mem_of_getElem? hsh.out))
     have hn5 := HSB1.out.n2
     have hn1 := HSB1.out.n1
     obtain ⟨p, q⟩ := og
     simp only at c0 c1
     have hpar := orgOk_parts (b := b) (W := x.wea) (i := k) (o := (p, q)) hsh.out
     have hyr := And.intro HBB.out.y1 HBB.out.y2
     have h63 : b.rivers.length ≤ 3 := HBB.out.n2
     have HO := Lib.hid (fun W (h : Ext (wr.alloc (.cells #[.int .i64 p, .int .i64 q] 50)) W) => (⟨HSK.out W (hx.trans (((Ext.refl wr).alloc _).trans h)), (HX.out.trans (hx.trans (((Ext.refl wr).alloc _).trans h))).cell c2, (HX.out.trans (hx.trans (((Ext.refl wr).alloc _).trans h))).cell c3, h.cell (by go_simp), h.cell (by go_simp)⟩ :
      _ ∧ _ ∧ _ ∧ W.cell? ⟨wr.heap.size, 0, none⟩ = some (.int .i64 p) ∧ W.cell? ⟨wr.heap.size, 1, none⟩ = some (.int .i64 q)))
     have d0 := (HX.out.trans hx).cell c0
     have d1 := (HX.out.trans hx).cell c1
     clear z0 z1 z2 z3 z4 z5 z6 z7 z8 z9
     obtain ⟨⟨⟨z0, z1, z2, z3, z4, z5⟩, z6, z7, z8, z9⟩, d2, d3, d4, d5⟩ := HO.out _ (Ext.refl _)
     go_upto_region 14 with fail
     obtain ⟨wo, hwo⟩ : ∃ wo : World, wo = wr.alloc (.cells #[.int .i64 p, .int .i64 q] 50) := ⟨_, rfl⟩
     have HXO := Lib.hid (show Ext wk wo by rw [hwo]; exact hx.alloc _)
     have HXW := Lib.hid (HX.out.trans HXO.out)
     have HRI := Lib.hid (fun W (h : Ext wo W) => hri.ext (HXW.out.trans h))
     rw [← hwo] at HO z0 z1 z2 z3 z4 z5 z6 z7 z8 z9 d2 d3 d4 d5 ⊢
     clear hwo hx c0 c1 c2 c3 d0 d1 g3 hri
     generalize wr.heap.size = wb at *
     cases h1 : inB p 0 (b.rivers.length - 1) with
     | false =>
      have HI := Lib.hid (fun w1 => h1 ▸ in_any p 0 (b.rivers.length - 1) w1)
      have HN := Lib.hid (fits_no_org hks ho.out (hpar.trans (by rw [h1]; rfl)))
      clear h1 hpar
      go_wp2_with (go_at_call 60; refine (HI.out _).mono ?_; rintro e w' ⟨rfl, rfl⟩)
      refine bodyPost_ret (by simp [results, Tryz.results38, go_sem] <;> rfl) rfl ?_
      exact ⟨by rw [HN.out] <;> rfl, HXW.out⟩
     | true =>
      have HI := Lib.hid (fun w1 => h1 ▸ in_any p 0 (b.rivers.length - 1) w1)
      rw [h1] at hpar
      obtain ⟨r, rfl⟩ : ∃ r : Nat, p = (r : Int) := ⟨p.toNat, by rw [inB_iff] at h1; omega⟩
      have hrl : r < b.rivers.length := by rw [inB_iff] at h1; omega
      clear h1
      have tok : True := trivial
      cases h2 : inB q (sh.rings.length - 1) (b.years - 1) with
      | false =>
       have HJ := Lib.hid (fun w1 => h2 ▸ in_any q (sh.rings.length - 1) (b.years - 1) w1)
       have HN := Lib.hid (fits_no_org hks ho.out (hpar.trans (by rw [h2]; rfl)))
       clear h2 hpar
       go_wp2_with (first | (go_at_call 60; have _t := tok; refine (HI.out _).mono ?_; rintro e w' ⟨rfl, rfl⟩; clear tok _t) | (go_at_call 60; refine (HJ.out _).mono ?_; rintro e w' ⟨rfl, rfl⟩))
       refine bodyPost_ret (by simp [results, Tryz.results38, go_sem] <;> rfl) rfl ?_
       exact ⟨by rw [HN.out] <;> rfl, HXW.out⟩
      | true =>
       have HJ := Lib.hid (fun w1 => h2 ▸ in_any q (sh.rings.length - 1) (b.years - 1) w1)
       rw [h2] at hpar
       obtain ⟨y, rfl⟩ : ∃ y : Nat, q = (y : Int) := ⟨q.toNat, by rw [inB_iff] at h2; omega⟩
       have hyl : (y : Int) < b.years := by rw [inB_iff] at h2; omega
       have hyn : sh.rings.length ≤ y + 1 := by rw [inB_iff] at h2; omega
       clear h2
       have HTE := Lib.hid (tested_any b (.slice ra b.rivers.length rc) (.slice (some ⟨sb, sf, none⟩) s.shells.length sc) (.slice ta s.tests.length tc) s.tests r y k wo HBB.out (HRW.out _ HXW.out) ⟨_, _, _, rfl⟩ (HTW.out _ HXW.out) hrl hyl)
       unfold sackV at HTE
       cases h3 : testedB b s.tests k ((r : Int), (y : Int)) with
       | false =>
        rw [h3] at HTE
        have HN := Lib.hid (fits_no_org hks ho.out (hpar.trans (by rw [h3]; rfl)))
        clear h3 hpar
        go_wp2_with (first | (go_at_call 60; have _t := tok; refine (HI.out _).mono ?_; rintro e w' ⟨rfl, rfl⟩; clear tok _t) | (go_at_call 60; refine (HJ.out _).mono ?_; rintro e w' ⟨rfl, rfl⟩) | (go_at_call 86; refine HTE.out.mono ?_; rintro e w1 ⟨rfl, hx1⟩))
        refine bodyPost_ret (by simp [results, Tryz.results38, go_sem] <;> rfl) rfl ?_
        exact ⟨by rw [HN.out] <;> rfl, HXW.out.trans hx1⟩
       | true =>
        rw [h3] at HTE hpar
        clear h3
        go_upto_region 16 with (first | (go_at_call 60; have _t := tok; refine (HI.out _).mono ?_; rintro e w' ⟨rfl, rfl⟩; clear tok _t) | (go_at_call 60; refine (HJ.out _).mono ?_; rintro e w' ⟨rfl, rfl⟩) | (go_at_call 86; refine HTE.out.mono ?_; rintro e w1 ⟨rfl, hx1⟩))
        obtain ⟨rb, ro, gv, R, rfl, hR, e0, e1, e2, hg⟩ := H3.out r hrl
        have hv := HBB.out.vary R (List.mem_of_getElem? hR.out)
        have hof := HSB1.out.off
        have hrl2 : (r : Int) < (b.rivers.length : Int) := by omega
        have HF := Lib.hid (fun W (h : Ext w1 W) => (⟨HO.out W (hx1.trans h), (HXW.out.trans (hx1.trans h)).cell e1⟩ : _ ∧ _))
        have HX1 := Lib.hid (HXO.out.trans hx1)
        clear hg e0 e1 e2 z0 z1 z2 z3 z4 z5 z6 z7 z8 z9 d2 d3 d4 d5 HTE HI HJ
        refine region_reads (C := fun W => Ext w1 W) (by kernel_rfl) (by kernel_rfl) ((Ext.refl w1).drew) ?_
        repeat (first | go_big_quiet_skip | (go_big_quiet_want; go_big_quiet_op; first | go_big_quiet_on | (refine ⟨_, fun W hW => rfl, ?_⟩; go_big_quiet_on)) | (go_big_quiet_want; refine ⟨?_, fun W hW => ?_, ?_⟩; rotate_left; (· (obtain ⟨⟨⟨⟨z0, z1, z2, z3, z4, z5⟩, z6, z7, z8, z9⟩, d2, d3, d4, d5⟩, y0⟩ := HF.out W hW); go_simp; (first | with_reducible rfl)); (try simp only [Act.put, yA, yB, yC]); go_big_quiet_on))
        refine wpQuiet_nil ?_
        intro wq hq
        obtain ⟨lb, lo, lv, l, rfl, hl, c3, hli⟩ := W3.out r (by have := HTR.out.2.1; omega)
        have hrl3 : (r : Int) < (x.wea.length : Int) := by have := HTR.out.2.1; omega
        have hll := HTR.out.1 l (List.mem_of_getElem? hl.out)
        obtain ⟨la, lc, rfl, k1, k2, k3⟩ := hli.open
        have K3 := Lib.hid k3
        have HG := Lib.hid (fun W (h : Ext w1 W) => (⟨HO.out W (hx1.trans h), (HXW.out.trans (hx1.trans h)).cell c3⟩ : _ ∧ _))
        have HZR := Lib.hid (fun (i : Nat) (z : Int) (hi : (i : Int) < b.years) (hz : l[i]? = some z) => wea_range HBB.out HALL.out hrl hl.out hi hz)
        have hwr := IntWalk.i64_in (R.vary + sh.off) (by omega)
        clear c3 k3 hli
        go_wp2
        go_loopw [113] (fun i wr => ∃ j : Nat, j ≤ sh.rings.length ∧ i = .int .i64 j ∧ Hid ((List.range j).all (ringIn b sh ((r : Int), (y : Int)) x.wea) = true) ∧ Ext w1 wr) (fun i _ => sh.rings.length - (intOf i).toNat)
        case atStart => exact ⟨0, Nat.zero_le _, rfl, by simp [Hid], hq⟩
        case round =>
         clear hq
         obtain ⟨j, hj, rfl, hja, hxj⟩ := hrel
         by_cases hjt : j < sh.rings.length
         ·obtain ⟨_, _, hsv, _, _, n3⟩ := (HRI.out _ (hx1.trans hxj)).open
          injection hsv with e1 e2 e3
          subst e1 e3
          obtain ⟨nb, no, n, rfl, hn, f0⟩ := n3 j hjt
          clear n3 e2
          obtain ⟨ix, hix⟩ : ∃ ix : Nat, (y : Int) - (sh.rings.length : Int) + 1 + (j : Int) = (ix : Int) := ⟨y + 1 - sh.rings.length + j, by omega⟩
          have hixl : ix < l.length := by omega
          obtain ⟨zb, zo, z, rfl, hz, f1⟩ := K3.out ix hixl
          have hzr := HZR.out ix z (by omega) hz.out
          have hnr := HSB1.out.ring n (List.mem_of_getElem? hn.out)
          have x3 : decide ((j : Int) < (sh.rings.length : Int)) = true := by simpa using hjt
          have i4 : (0 : Int) ≤ (j : Int) := by omega
          have i5 : (j : Int) < (sh.rings.length : Int) := by omega
          have i6 : (0 : Int) ≤ (ix : Int) := by omega
          have i7 : (ix : Int) < (l.length : Int) := by omega
          have hri := ringIn_at (b := b) hR.out hl.out hn.out (by rw [show y + 1 - sh.rings.length + j = ix by omega]; exact hz.out)
          have HG2 := Lib.hid (fun W (h : Ext wr W) => (⟨HG.out W (hxj.trans h), (HXW.out.trans (hx1.trans (hxj.trans h))).cell f1⟩ : _ ∧ _))
          clear f1
          cases hin : inB (n - z) (-(R.vary + sh.off)) (R.vary + sh.off) with
          | true =>
           have HI := Lib.hid (fun w1 => hin ▸ in_any (n - z) (-(R.vary + sh.off)) (R.vary + sh.off) w1)
           have HN := Lib.hid (all_step hja.out (hri.trans hin))
           clear hin hri
           go_upto_region 20 with fail
           refine region_reads (C := fun W => Ext wr W) (by kernel_rfl) (by kernel_rfl) ((Ext.refl wr).drew) ?_
           repeat (first | go_big_quiet_skip | (go_big_quiet_want; go_big_quiet_op; first | go_big_quiet_on | (refine ⟨_, fun W hW => rfl, ?_⟩; go_big_quiet_on)) | (go_big_quiet_want; refine ⟨?_, fun W hW => ?_, ?_⟩; rotate_left; (· (obtain ⟨⟨⟨⟨⟨z0, z1, z2, z3, z4, z5⟩, z6, z7, z8, z9⟩, d2, d3, d4, d5⟩, y0⟩, y1⟩ := HG2.out W hW); go_simp; (first | with_reducible rfl | (go_at_call 60; refine (HI.out W).mono ?_; rintro e w' ⟨rfl, rfl⟩; constructor; with_reducible rfl; exact hW))); (try simp only [Act.put, yA, yB, yC]); go_big_quiet_on))
           refine wpQuiet_nil ?_
           intro wq hq
           go_wp2
           go_roundw
           case rel => exact ⟨j + 1, by omega, by go_num, HN, hxj.trans hq⟩
           case measure => simp [intOf]; omega
          | false =>
           have HI := Lib.hid (fun w1 => hin ▸ in_any (n - z) (-(R.vary + sh.off)) (R.vary + sh.off) w1)
           have HN := Lib.hid (fits_no_org hks ho.out (hpar.trans (by rw [all_not hjt (hri.trans hin)] <;> rfl)))
           clear hin hri
           go_upto_region 20 with fail
           refine region_reads (C := fun W => Ext wr W) (by kernel_rfl) (by kernel_rfl) ((Ext.refl wr).drew) ?_
           repeat (first | go_big_quiet_skip | (go_big_quiet_want; go_big_quiet_op; first | go_big_quiet_on | (refine ⟨_, fun W hW => rfl, ?_⟩; go_big_quiet_on)) | (go_big_quiet_want; refine ⟨?_, fun W hW => ?_, ?_⟩; rotate_left; (· (obtain ⟨⟨⟨⟨⟨z0, z1, z2, z3, z4, z5⟩, z6, z7, z8, z9⟩, d2, d3, d4, d5⟩, y0⟩, y1⟩ := HG2.out W hW); go_simp; (first | with_reducible rfl | (go_at_call 60; refine (HI.out W).mono ?_; rintro e w' ⟨rfl, rfl⟩; constructor; with_reducible rfl; exact hW))); (try simp only [Act.put, yA, yB, yC]); go_big_quiet_on))
           refine wpQuiet_nil ?_
           intro wq hq
           go_wp2
           refine bodyPost_ret (by simp [results, Tryz.results38, go_sem] <;> rfl) rfl ?_
           exact ⟨by rw [HN.out] <;> rfl, HXW.out.trans (hx1.trans (hxj.trans hq))⟩
         ·have x3 : decide ((j : Int) < (sh.rings.length : Int)) = false := by simp; omega
          have HN : Hid ((List.range (k + 1)).all (fun i => orgOk b s x.wea i (x.org.getD i (0, 0))) = true) := by
           have h := hja.out
           rw [show j = sh.rings.length by omega] at h
           refine all_step hall.out ?_
           show orgOk b s x.wea k (x.org.getD k (0, 0)) = true
           rw [List.getD_eq_getElem?_getD, ho.out]
           exact hpar.trans (by rw [h]; rfl)
          go_wp2
          go_roundw
          case rel => exact ⟨k + 1, by omega, by go_num, HN, HX1.out.trans hxj⟩
          case measure => simp [intOf]; omega
    ·have x2 : decide ((k : Int) < (x.org.length : Int)) = false := by simp; omega
     have HN : Hid (fitsB b s x = true) := by
      have h := hall.out
      rw [show k = s.shells.length by have := HTR.out.2.2; omega] at h
      unfold Hid fitsB orgAll; rw [HALL.out, h]; rfl
     go_wp2
     refine bodyPost_ret (by simp [results, Tryz.results38, go_sem] <;> rfl) rfl ?_
     exact ⟨by rw [HN.out] <;> rfl, HX.out.trans hx⟩
theorem Fits_any (bv sv xv : Value) (b : Book) (s : Sack) (x : Truth) (w : World) (hb : BookAt w bv b) (hs : SackAt w sv s) (hx : TruthAt w xv x) : Calls Tryz.prog 38 #[bv, sv, xv] w (FitsRes b s x w) := by
 cases h : fitsArg b s x with
 | true => exact Fits_yes bv sv xv b s x w hb hs hx h
 | false => exact Fits_no bv sv xv b s x w hb hs hx h
end Go.Proofs.YtnhpibnneidmgaaGreatDoor
