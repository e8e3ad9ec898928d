/- The reference's Fits. -/
import Derived.Test.YtnhpibnneidmgaaGreatDoorRfit
import Derived.Test.YtnhpibnneidmgaaGreatDoorFitd
namespace Go.Proofs.YtnhpibnneidmgaaGreatDoor
open Go.RowKit
set_option maxRecDepth 100000 in
set_option maxHeartbeats 16000000 in
theorem rfits_any (bv sv xv : Value) (b : Book) (s : Sack) (x : Truth) (w : World) (hb : BookAt w bv b) (hs : SackAt w sv s) (hx : TruthAt w xv x) (hn1 : isBookB b = true) (hn2 : isSackB s = true) (hn3 : truthB b s x = true) :
  Calls Tryz.prog 40 #[bv, sv, xv] w fun e w' => e = .returned (.bool (fitsB b s x)) ∧ Ext w w' := by
 have HBB := Lib.hid (bookB_of hn1)
 have HSB := Lib.hid (sackB_of hn2)
 have HTR := Lib.hid (show (∀ l, l ∈ x.wea → (l.length : Int) = b.years) ∧ x.wea.length = b.rivers.length ∧ x.org.length = s.shells.length by
  unfold truthB at hn3
  rw [Bool.and_eq_true, Bool.and_eq_true, decide_eq_true_eq, decide_eq_true_eq, Bool.not_eq_true', List.any_eq_false] at hn3
  refine ⟨fun l hl => ?_, hn3.1.2, hn3.2⟩
  have := hn3.1.1 l hl
  simpa using this)
 clear hn1 hn2 hn3
 have HOR := Lib.hid (fun (o : Org) (n : Nat) (h5 : n ≤ 5) w1 (h : Ext w w1) => rorigin_any bv b o n w1 (hb.ext h) HBB.out.y1 HBB.out.y2 (by omega))
 have HTO := Lib.hid (fun (i r y : Nat) (hr : r < b.rivers.length) (hy : (y : Int) < b.years) w1 (h : Ext w w1) => rtold_any bv sv b s i r y w1 (hb.ext h) HBB.out (hs.ext h) hr hy)
 obtain ⟨ra, rc, rfl, hr⟩ := hb.slice
 obtain ⟨_, _, hv, r1, r2, r3⟩ := hr.open
 cases hv
 obtain ⟨sa, sc, ta, tc, rfl, hsh, hte⟩ := hs.slice
 obtain ⟨_, _, hv, s1, s2, s3⟩ := hsh.open
 cases hv
 obtain ⟨wv, ov, rfl, hw, ho⟩ := hx
 obtain ⟨wa, wc, rfl, w1, w2', w3⟩ := hw.open
 obtain ⟨oa, oc, rfl, o1, o2, o3⟩ := ho.open
 have H3 := Lib.hid r3
 have S3 := Lib.hid s3
 have W3 := Lib.hid w3
 have O3 := Lib.hid o3
 obtain ⟨W0, hW0⟩ : ∃ W0, W0 = ((w.alloc (.cells #[.int .i64 b.years, .slice ra b.rivers.length rc] 24)).alloc (.cells #[.slice sa s.shells.length sc, .slice ta s.tests.length tc] 28)).alloc (.cells #[.slice wa x.wea.length wc, .slice oa x.org.length oc] 81) := ⟨_, rfl⟩
 have HX0 := Lib.hid (show Ext w W0 by rw [hW0]; exact (((Ext.refl w).alloc _).alloc _).alloc _)
 have HS := Lib.hid (fun W (h : Ext W0 W) => (⟨h.cell (by rw [hW0]; go_simp), h.cell (by rw [hW0]; go_simp), h.cell (by rw [hW0]; go_simp), h.cell (by rw [hW0]; go_simp), h.cell (by rw [hW0]; go_simp), h.cell (by rw [hW0]; go_simp)⟩ :
  W.cell? ⟨w.heap.size, 0, none⟩ = some (.int .i64 b.years) ∧ W.cell? ⟨w.heap.size, 1, none⟩ = some (.slice ra b.rivers.length rc) ∧ W.cell? ⟨w.heap.size + 1, 0, none⟩ = some (.slice sa s.shells.length sc) ∧ W.cell? ⟨w.heap.size + 1, 1, none⟩ = some (.slice ta s.tests.length tc) ∧ W.cell? ⟨w.heap.size + 2, 0, none⟩ = some (.slice wa x.wea.length wc) ∧ W.cell? ⟨w.heap.size + 2, 1, none⟩ = some (.slice oa x.org.length oc)))
 clear hb hs hw ho hr hsh hte r3 s3 w3 o3
 go_enter Tryz.func40, Tryz.ntmps40
 go_upto_region 1 with fail
 rw [← hW0]
 clear hW0
 go_wp2
 go_loopw [7] (fun i wr => ∃ k : Nat, k ≤ b.rivers.length ∧ i = .int .i64 k ∧ Hid ((List.range k).all (weaOk b x.wea) = true) ∧ Ext W0 wr) (fun i _ => b.rivers.length - (intOf i).toNat)
 case atStart => exact ⟨0, Nat.zero_le _, rfl, by simp [Hid], Ext.refl _⟩
 case round =>
  obtain ⟨k, hk, rfl, hall, hx⟩ := hrel
  obtain ⟨z0, z1, z2, z3, z4, z5⟩ := HS.out _ hx
  have hwl := HTR.out.2.1
  by_cases hlt : k < b.rivers.length
  ·obtain ⟨bb, bo, gv, R, rfl, hR, c0, c1, c2, hg⟩ := H3.out k hlt
   obtain ⟨lb, lo, lv, l, rfl, hl, c3, hli⟩ := W3.out k (by omega)
   have x2 : decide ((k : Int) < (x.wea.length : Int)) = true := by simp; omega
   have i1 : (0 : Int) ≤ (k : Int) := by omega
   have i2 : (k : Int) < (b.rivers.length : Int) := by omega
   have i3 : (k : Int) < (x.wea.length : Int) := by omega
   have HLE := Lib.hid (show l.length = R.grow.length by
    have h1 := HTR.out.1 l (List.mem_of_getElem? hl.out)
    have h2 := HBB.out.len R (List.mem_of_getElem? hR.out)
    omega)
   obtain ⟨ga, gc, rfl, g1, g2, g3⟩ := hg.open
   obtain ⟨la, lc, rfl, l1, l2, l3⟩ := hli.open
   have G3 := Lib.hid g3
   have L3 := Lib.hid l3
   have HOK := Lib.hid (weaOk_in hR.out hl.out)
   obtain ⟨wo, rfl⟩ : ∃ wo : World, wo = wr := ⟨_, rfl⟩
   have HF := Lib.hid (fun W (h : Ext wo W) => (⟨HS.out W (hx.trans h), (HX0.out.trans (hx.trans h)).cell c0, (HX0.out.trans (hx.trans h)).cell c3⟩ : _ ∧ _ ∧ _))
   have HXO := Lib.hid hx
   have HXW := Lib.hid (HX0.out.trans hx)
   clear hg hli g3 l3 c0 c1 c2 c3 hx hwl
   go_wp2
   go_loopw [8] (fun i wr => ∃ j : Nat, j ≤ l.length ∧ i = .int .i64 j ∧ Hid ((List.range j).all (inSpan l R.grow) = true) ∧ Ext wo wr) (fun i _ => l.length - (intOf i).toNat)
   case atStart => exact ⟨0, Nat.zero_le _, rfl, by simp [Hid], Ext.refl _⟩
   case round =>
    obtain ⟨j, hj, rfl, hja, hx⟩ := hrel
    clear z0 z1 z2 z3 z4 z5
    obtain ⟨⟨z0, z1, z2, z3, z4, z5⟩, y0, y1⟩ := HF.out _ hx
    by_cases hjt : j < l.length
    ·obtain ⟨nb, no, n, rfl, hn, f0⟩ := L3.out j hjt
     have hjg : j < R.grow.length := by have := HLE.out; omega
     obtain ⟨gb, go, g, rfl, hgk, f1, f2⟩ := G3.out j hjg
     have x3 : decide ((j : Int) < (l.length : Int)) = true := by simpa using hjt
     have i4 : (0 : Int) ≤ (j : Int) := by omega
     have i5 : (j : Int) < (l.length : Int) := by omega
     have i6 : (j : Int) < (R.grow.length : Int) := by omega
     have hat := inSpan_at hn.out hgk.out
     obtain ⟨gl, gh⟩ := g
     simp only at f1 f2 hat
     have e0 := (HXW.out.trans hx).cell f0
     have e1 := (HXW.out.trans hx).cell f1
     have e2 := (HXW.out.trans hx).cell f2
     go_upto_region 8 with fail
     obtain ⟨wp, hwp⟩ : ∃ wp : World, wp = wr.alloc (.cells #[.int .i64 gl, .int .i64 gh] 53) := ⟨_, rfl⟩
     have HWP := Lib.hid (show Ext wr wp by rw [hwp]; exact (Ext.refl wr).alloc _)
     have HG := Lib.hid (fun W (h : Ext wp W) => (⟨HF.out W (hx.trans (HWP.out.trans h)), (HXW.out.trans (hx.trans (HWP.out.trans h))).cell f0, h.cell (by rw [hwp]; go_simp), h.cell (by rw [hwp]; go_simp)⟩ : _ ∧ _ ∧ W.cell? ⟨wr.heap.size, 0, none⟩ = some (.int .i64 gl) ∧ W.cell? ⟨wr.heap.size, 1, none⟩ = some (.int .i64 gh)))
     rw [← hwp]
     clear hwp f0 f1 f2 e0 e1 e2 z0 z1 z2 z3 z4 z5 y0 y1
     generalize wr.heap.size = qb at *
     cases hi : inB n gl gh with
     | true =>
      have HI := Lib.hid (fun w1 => hi ▸ rin_any n gl gh w1)
      have HN := Lib.hid (all_step hja.out (hat.trans hi))
      clear hat hi
      refine region_reads (C := fun W => Ext wp W) (by kernel_rfl) (by kernel_rfl) ((Ext.refl wp).drew) ?_
      repeat (first | go_big_quiet_skip | (go_big_quiet_want; go_big_quiet_op; first | go_big_quiet_on | (refine ⟨_, fun W hW => rfl, ?_⟩; go_big_quiet_on)) | (go_big_quiet_want; refine ⟨?_, fun W hW => ?_, ?_⟩; rotate_left; (· (obtain ⟨⟨⟨z0, z1, z2, z3, z4, z5⟩, y0, y1⟩, y2, y3, y4⟩ := HG.out W hW); go_simp; (first | with_reducible rfl | (go_at_call 48; refine (HI.out W).mono ?_; rintro e w' ⟨rfl, rfl⟩; constructor; with_reducible rfl; exact hW))); (try simp only [Act.put, yA, yB, yC]); go_big_quiet_on))
      refine wpQuiet_nil ?_
      intro wq hq
      go_wp2
      go_roundw
      case rel => exact ⟨j + 1, by omega, by go_num, HN, hx.trans (HWP.out.trans hq)⟩
      case measure => simp [intOf]; omega
     | false =>
      have HI := Lib.hid (fun w1 => hi ▸ rin_any n gl gh w1)
      have HN := Lib.hid (fits_no_wea (s := s) hlt (HOK.out.trans (all_not hjg (hat.trans hi))))
      clear hat hi
      refine region_reads (C := fun W => Ext wp W) (by kernel_rfl) (by kernel_rfl) ((Ext.refl wp).drew) ?_
      repeat (first | go_big_quiet_skip | (go_big_quiet_want; go_big_quiet_op; first | go_big_quiet_on | (refine ⟨_, fun W hW => rfl, ?_⟩; go_big_quiet_on)) | (go_big_quiet_want; refine ⟨?_, fun W hW => ?_, ?_⟩; rotate_left; (· (obtain ⟨⟨⟨z0, z1, z2, z3, z4, z5⟩, y0, y1⟩, y2, y3, y4⟩ := HG.out W hW); go_simp; (first | with_reducible rfl | (go_at_call 48; refine (HI.out W).mono ?_; rintro e w' ⟨rfl, rfl⟩; constructor; with_reducible rfl; exact hW))); (try simp only [Act.put, yA, yB, yC]); go_big_quiet_on))
      refine wpQuiet_nil ?_
      intro wq hq
      go_wp2
      go_ret
      exact ⟨by rw [HN.out] <;> rfl, HXW.out.trans (hx.trans (HWP.out.trans hq))⟩
    ·have x3 : decide ((j : Int) < (l.length : Int)) = false := by simp; omega
     have HN := Lib.hid (all_step hall.out (HOK.out.trans (by have h := hja.out; rwa [show j = R.grow.length by have := HLE.out; omega] at h)))
     go_wp2
     go_roundw
     case rel => exact ⟨k + 1, by omega, by go_num, HN, HXO.out.trans hx⟩
     case measure => simp [intOf]; omega
  ·have x2 : ¬ k < x.wea.length := by omega
   have HALL := Lib.hid (show (List.range b.rivers.length).all (weaOk b x.wea) = true by have h := hall.out; rwa [show k = b.rivers.length by omega] at h)
   clear hall hwl z0 z1 z2 z3 z4 z5
   obtain ⟨wk, rfl⟩ : ∃ wk : World, wk = wr := ⟨_, rfl⟩
   have HSK := Lib.hid (fun W (h : Ext wk W) => HS.out W (hx.trans h))
   have HX := Lib.hid (HX0.out.trans hx)
   obtain ⟨z0, z1, z2, z3, z4, z5⟩ := HSK.out _ (Ext.refl _)
   clear hx HX0 HS
   go_wp2
   clear hk hlt
   go_loopw [10] (fun i wr => ∃ k : Nat, k ≤ s.shells.length ∧ i = .int .i64 k ∧ Hid ((List.range k).all (fun i => orgOk b s x.wea i (x.org.getD i (0, 0))) = true) ∧ Ext wk wr) (fun i _ => s.shells.length - (intOf i).toNat)
   case atStart => exact ⟨0, Nat.zero_le _, rfl, by simp [Hid], Ext.refl _⟩
   case round =>
    clear x2 z0 z1 z2 z3 z4 z5
    obtain ⟨k, hk, rfl, hall, hx⟩ := hrel
    obtain ⟨z0, z1, z2, z3, z4, z5⟩ := HSK.out _ hx
    by_cases hks : k < s.shells.length
    ·obtain ⟨ob, of, og, rfl, ho, c0, c1⟩ := O3.out k (by have := HTR.out.2.2; omega)
     obtain ⟨sb, sf, rv, sh, rfl, hsh, c2, c3, hri⟩ := S3.out k hks
     obtain ⟨ia, ic, rfl, g1, g2, g3⟩ := hri.open
     have x2 : decide ((k : Int) < (s.shells.length : Int)) = true := by simpa using hks
     have i1 : (0 : Int) ≤ (k : Int) := by omega
     have i2 : (k : Int) < (x.org.length : Int) := by have := HTR.out.2.2; omega
     have i3 : (k : Int) < (s.shells.length : Int) := by omega
     have HSB1 := Lib.hid (HSB.out.shell sh (List.mem_of_getElem? hsh.out))
     have hn5 := HSB1.out.n2
     have hn1 := HSB1.out.n1
     obtain ⟨p, q⟩ := og
     simp only at c0 c1
     have hpar := orgOk_parts (b := b) (W := x.wea) (i := k) (o := (p, q)) hsh.out
     have heq : originB b (p, q) sh.rings.length = (inB p 0 (b.rivers.length - 1) && inB q (sh.rings.length - 1) (b.years - 1)) := originB_eq hn1
     simp only at hpar
     rw [← heq] at hpar
     clear heq
     have hyr := And.intro HBB.out.y1 HBB.out.y2
     have HRI := Lib.hid (fun W (h : Ext wk W) => hri.ext (HX.out.trans h))
     have HF := Lib.hid (fun W (h : Ext wr W) => (⟨HSK.out W (hx.trans h), (HX.out.trans (hx.trans h)).cell c0, (HX.out.trans (hx.trans h)).cell c1, (HX.out.trans (hx.trans h)).cell c2, (HX.out.trans (hx.trans h)).cell c3⟩ : _ ∧ _ ∧ _ ∧ _ ∧ _))
     have HXW := Lib.hid (HX.out.trans hx)
     clear g3 hri c0 c1 c2 c3
     go_upto_region 13 with fail
     have HFC := Lib.hid (fun W (h : Ext wr W) => (⟨(HF.out W h).1.2.2.2.2.2, (HF.out W h).1.2.2.1, (HF.out W h).2.1, (HF.out W h).2.2.1, (HF.out W h).2.2.2.1⟩ : _ ∧ _ ∧ _ ∧ _ ∧ _))
     go_region_held3 (fun w' => w'.cell? ⟨w.heap.size + 2, 1, none⟩ = some (.slice (some ⟨ob, of, none⟩) x.org.length oc) ∧ w'.cell? ⟨w.heap.size + 1, 0, none⟩ = some (.slice (some ⟨sb, sf, none⟩) s.shells.length sc) ∧ w'.cell? ⟨ob, of + k * 2, none⟩ = some (.int .i64 p) ∧ w'.cell? ⟨ob, of + k * 2 + 1, none⟩ = some (.int .i64 q) ∧ w'.cell? ⟨sb, sf + k * 2, none⟩ = some (.slice ia sh.rings.length ic)) (first | exact HFC.out _ (by repeat (first | assumption | exact Ext.refl _ | apply Ext.drew | apply Ext.alloc | (refine Ext.setCell ?_ (by simp) _)))) (fail)
     have HO := Lib.hid (fun W (h : Ext ((wr.alloc (.cells #[.int .i64 p, .int .i64 q] 50)).drew) W) => (⟨(HF.out W (((Ext.refl wr).alloc _).drew.trans h)).1, (HF.out W (((Ext.refl wr).alloc _).drew.trans h)).2.1, (HF.out W (((Ext.refl wr).alloc _).drew.trans h)).2.2.1, (HF.out W (((Ext.refl wr).alloc _).drew.trans h)).2.2.2.1, (HF.out W (((Ext.refl wr).alloc _).drew.trans h)).2.2.2.2, h.cell (by go_simp), h.cell (by go_simp)⟩ :
      _ ∧ _ ∧ _ ∧ _ ∧ _ ∧ W.cell? ⟨wr.heap.size, 0, none⟩ = some (.int .i64 p) ∧ W.cell? ⟨wr.heap.size, 1, none⟩ = some (.int .i64 q)))
     clear z0 z1 z2 z3 z4 z5
     obtain ⟨⟨z0, z1, z2, z3, z4, z5⟩, y2, y3, y4, y5, d0, d1⟩ := HO.out _ (Ext.refl _)
     go_upto_region 14 with fail
     obtain ⟨wo, hwo⟩ : ∃ wo : World, wo = (wr.alloc (.cells #[.int .i64 p, .int .i64 q] 50)).drew := ⟨_, rfl⟩
     have HXO := Lib.hid (show Ext wk wo by rw [hwo]; exact (hx.alloc _).drew)
     have HXW2 := Lib.hid (HX.out.trans HXO.out)
     rw [← hwo] at HO z0 z1 z2 z3 z4 z5 y2 y3 y4 y5 d0 d1 ⊢
     clear hwo hx HF HFC HXW
     generalize wr.heap.size = wb at *
     cases h1 : originB b (p, q) sh.rings.length with
     | false =>
      have HI := Lib.hid (fun w1 (h : Ext wo w1) => h1 ▸ HOR.out (p, q) sh.rings.length hn5 w1 (HXW2.out.trans h))
      have HN := Lib.hid (fits_no_org hks ho.out (hpar.trans (by rw [h1]; rfl)))
      clear h1 hpar
      go_wp2_with (go_at_call 41; refine (HI.out _ (Ext.refl _)).mono ?_; rintro e w1 ⟨rfl, hx1⟩; clear z0 z1 z2 z3 z4 z5 d0 d1; obtain ⟨⟨z0, z1, z2, z3, z4, z5⟩, y2, y3, y4, y5, d0, d1⟩ := HO.out _ hx1)
      go_ret
      exact ⟨by rw [HN.out] <;> rfl, HXW2.out.trans hx1⟩
     | true =>
      have HI := Lib.hid (fun w1 (h : Ext wo w1) => h1 ▸ HOR.out (p, q) sh.rings.length hn5 w1 (HXW2.out.trans h))
      rw [h1] at hpar
      unfold originB at h1
      rw [Bool.and_eq_true, Bool.and_eq_true, isRiverB, isYearB, inB_iff, inB_iff, decide_eq_true_eq] at h1
      simp only at h1
      obtain ⟨r, rfl⟩ : ∃ r : Nat, p = (r : Int) := ⟨p.toNat, by omega⟩
      obtain ⟨y, rfl⟩ : ∃ y : Nat, q = (y : Int) := ⟨q.toNat, by omega⟩
      have hrl : r < b.rivers.length := by omega
      have hyl : (y : Int) < b.years := by omega
      have hyn : sh.rings.length ≤ y + 1 := by omega
      clear h1
      have HTE := Lib.hid (fun w1 (h : Ext w w1) => HTO.out k r y hrl hyl w1 h)
      cases h3 : testedB b s.tests k ((r : Int), (y : Int)) with
      | false =>
       rw [h3] at HTE
       have HN := Lib.hid (fits_no_org hks ho.out (hpar.trans (by rw [h3]; rfl)))
       clear h3 hpar
       go_wp2_with (first | (go_at_call 41; refine (HI.out _ (Ext.refl _)).mono ?_; rintro e w1 ⟨rfl, hx1⟩; clear z0 z1 z2 z3 z4 z5 d0 d1; obtain ⟨⟨z0, z1, z2, z3, z4, z5⟩, y2, y3, y4, y5, d0, d1⟩ := HO.out _ hx1) | (go_at_call 87; refine (HTE.out _ (HXW2.out.trans hx1)).mono ?_; rintro e w2 ⟨rfl, hx2⟩))
       go_ret
       exact ⟨by rw [HN.out] <;> rfl, HXW2.out.trans (hx1.trans hx2)⟩
      | true =>
       rw [h3] at HTE hpar
       clear h3
       go_upto_region 16 with (first | (go_at_call 41; refine (HI.out _ (Ext.refl _)).mono ?_; rintro e w1 ⟨rfl, hx1⟩; clear z0 z1 z2 z3 z4 z5 d0 d1; obtain ⟨⟨z0, z1, z2, z3, z4, z5⟩, y2, y3, y4, y5, d0, d1⟩ := HO.out _ hx1) | (go_at_call 87; refine (HTE.out _ (HXW2.out.trans hx1)).mono ?_; rintro e w2 ⟨rfl, hx2⟩))
       obtain ⟨rb, ro, gv, R, rfl, hR, e0, e1, e2, hg⟩ := H3.out r hrl
       have hv := HBB.out.vary R (List.mem_of_getElem? hR.out)
       have hof := HSB1.out.off
       have hrl2 : (r : Int) < (b.rivers.length : Int) := by omega
       have HX2 := Lib.hid (hx1.trans hx2)
       have HF := Lib.hid (fun W (h : Ext w2 W) => (⟨HO.out W (HX2.out.trans h), (HXW2.out.trans (HX2.out.trans h)).cell e1⟩ : _ ∧ _))
       clear hg e0 e1 e2 z0 z1 z2 z3 z4 z5 y2 y3 y4 y5 d0 d1 HTE HI hx1 hx2
       refine region_reads (C := fun W => Ext w2 W) (by kernel_rfl) (by kernel_rfl) ((Ext.refl w2).drew) ?_
       repeat (first | go_big_quiet_skip | (go_big_quiet_want; go_big_quiet_op; first | go_big_quiet_on | (refine ⟨_, fun W hW => rfl, ?_⟩; go_big_quiet_on)) | (go_big_quiet_want; refine ⟨?_, fun W hW => ?_, ?_⟩; rotate_left; (· (obtain ⟨⟨⟨z0, z1, z2, z3, z4, z5⟩, y2, y3, y4, y5, d0, d1⟩, y0⟩ := HF.out W hW); go_simp; (first | with_reducible rfl)); (try simp only [Act.put, yA, yB, yC]); go_big_quiet_on))
       refine wpQuiet_nil ?_
       intro wq hq
       obtain ⟨lb, lo, lv, l, rfl, hl, c3, hli⟩ := W3.out r (by have := HTR.out.2.1; omega)
       have hrl3 : (r : Int) < (x.wea.length : Int) := by have := HTR.out.2.1; omega
       have hll := HTR.out.1 l (List.mem_of_getElem? hl.out)
       obtain ⟨la, lc, rfl, k1, k2, k3⟩ := hli.open
       have K3 := Lib.hid k3
       have HG := Lib.hid (fun W (h : Ext w2 W) => (⟨HO.out W (HX2.out.trans h), (HXW2.out.trans (HX2.out.trans h)).cell c3⟩ : _ ∧ _))
       have HZR := Lib.hid (fun (i : Nat) (z : Int) (hi : (i : Int) < b.years) (hz : l[i]? = some z) => wea_range HBB.out HALL.out hrl hl.out hi hz)
       clear c3 k3 hli
       go_wp2
       go_loopw [14] (fun i wr => ∃ j : Nat, j ≤ sh.rings.length ∧ i = .int .i64 j ∧ Hid ((List.range j).all (ringIn b sh ((r : Int), (y : Int)) x.wea) = true) ∧ Ext w2 wr) (fun i _ => sh.rings.length - (intOf i).toNat)
       case atStart => exact ⟨0, Nat.zero_le _, rfl, by simp [Hid], hq⟩
       case round =>
        clear hq
        obtain ⟨j, hj, rfl, hja, hxj⟩ := hrel
        by_cases hjt : j < sh.rings.length
        ·obtain ⟨_, _, hsv, _, _, n3⟩ := (HRI.out _ (HXO.out.trans (HX2.out.trans hxj))).open
         injection hsv with e1 e2 e3
         subst e1 e3
         obtain ⟨nb, no, n, rfl, hn, f0⟩ := n3 j hjt
         clear n3 e2
         obtain ⟨ix, hix⟩ : ∃ ix : Nat, (y : Int) - (sh.rings.length : Int) + 1 + (j : Int) = (ix : Int) := ⟨y + 1 - sh.rings.length + j, by omega⟩
         have hixl : ix < l.length := by omega
         obtain ⟨zb, zo, z, rfl, hz, f1⟩ := K3.out ix hixl
         have hzr := HZR.out ix z (by omega) hz.out
         have hnr := HSB1.out.ring n (List.mem_of_getElem? hn.out)
         have x3 : decide ((j : Int) < (sh.rings.length : Int)) = true := by simpa using hjt
         have i4 : (0 : Int) ≤ (j : Int) := by omega
         have i5 : (j : Int) < (sh.rings.length : Int) := by omega
         have i6 : (0 : Int) ≤ (ix : Int) := by omega
         have i7 : (ix : Int) < (l.length : Int) := by omega
         have hri := ringIn_at (b := b) hR.out hl.out hn.out (by rw [show y + 1 - sh.rings.length + j = ix by omega]; exact hz.out)
         have HG2 := Lib.hid (fun W (h : Ext wr W) => (⟨HG.out W (hxj.trans h), (HXW2.out.trans (HX2.out.trans (hxj.trans h))).cell f1, h.cell f0⟩ : _ ∧ _ ∧ _))
         clear f1
         cases hin : inB (n - z) (-(R.vary + sh.off)) (R.vary + sh.off) with
         | true =>
          have HI := Lib.hid (fun w1 => hin ▸ rin_any (n - z) (-(R.vary + sh.off)) (R.vary + sh.off) w1)
          have HN := Lib.hid (all_step hja.out (hri.trans hin))
          clear hin hri
          go_upto_region 20 with fail
          refine region_reads (C := fun W => Ext wr W) (by kernel_rfl) (by kernel_rfl) ((Ext.refl wr).drew) ?_
          repeat (first | go_big_quiet_skip | (go_big_quiet_want; go_big_quiet_op; first | go_big_quiet_on | (refine ⟨_, fun W hW => rfl, ?_⟩; go_big_quiet_on)) | (go_big_quiet_want; refine ⟨?_, fun W hW => ?_, ?_⟩; rotate_left; (· (obtain ⟨⟨⟨⟨z0, z1, z2, z3, z4, z5⟩, y2, y3, y4, y5, d0, d1⟩, y0⟩, y1, y6⟩ := HG2.out W hW); go_simp; (first | with_reducible rfl | (go_at_call 48; refine (HI.out W).mono ?_; rintro e w' ⟨rfl, rfl⟩; constructor; with_reducible rfl; exact hW))); (try simp only [Act.put, yA, yB, yC]); go_big_quiet_on))
          refine wpQuiet_nil ?_
          intro wq hq
          go_wp2
          go_roundw
          case rel => exact ⟨j + 1, by omega, by go_num, HN, hxj.trans hq⟩
          case measure => simp [intOf]; omega
         | false =>
          have HI := Lib.hid (fun w1 => hin ▸ rin_any (n - z) (-(R.vary + sh.off)) (R.vary + sh.off) w1)
          have HN := Lib.hid (fits_no_org hks ho.out (hpar.trans (by rw [all_not hjt (hri.trans hin)] <;> rfl)))
          clear hin hri
          go_upto_region 20 with fail
          refine region_reads (C := fun W => Ext wr W) (by kernel_rfl) (by kernel_rfl) ((Ext.refl wr).drew) ?_
          repeat (first | go_big_quiet_skip | (go_big_quiet_want; go_big_quiet_op; first | go_big_quiet_on | (refine ⟨_, fun W hW => rfl, ?_⟩; go_big_quiet_on)) | (go_big_quiet_want; refine ⟨?_, fun W hW => ?_, ?_⟩; rotate_left; (· (obtain ⟨⟨⟨⟨z0, z1, z2, z3, z4, z5⟩, y2, y3, y4, y5, d0, d1⟩, y0⟩, y1, y6⟩ := HG2.out W hW); go_simp; (first | with_reducible rfl | (go_at_call 48; refine (HI.out W).mono ?_; rintro e w' ⟨rfl, rfl⟩; constructor; with_reducible rfl; exact hW))); (try simp only [Act.put, yA, yB, yC]); go_big_quiet_on))
          refine wpQuiet_nil ?_
          intro wq hq
          go_wp2
          go_ret
          exact ⟨by rw [HN.out] <;> rfl, HXW2.out.trans (HX2.out.trans (hxj.trans hq))⟩
        ·have x3 : decide ((j : Int) < (sh.rings.length : Int)) = false := by simp; omega
         have HN : Hid ((List.range (k + 1)).all (fun i => orgOk b s x.wea i (x.org.getD i (0, 0))) = true) := by
          have h := hja.out
          rw [show j = sh.rings.length by omega] at h
          refine all_step hall.out ?_
          show orgOk b s x.wea k (x.org.getD k (0, 0)) = true
          rw [List.getD_eq_getElem?_getD, ho.out]
          exact hpar.trans (by rw [h]; rfl)
         go_wp2
         go_roundw
         case rel => exact ⟨k + 1, by omega, by go_num, HN, HXO.out.trans (HX2.out.trans hxj)⟩
         case measure => simp [intOf]; omega
    ·have x2 : decide ((k : Int) < (s.shells.length : Int)) = false := by simp; omega
     have HN : Hid (fitsB b s x = true) := by
      have h := hall.out
      rw [show k = s.shells.length by omega] at h
      unfold Hid fitsB orgAll; rw [HALL.out, h]; rfl
     go_wp2
     go_ret
     exact ⟨by rw [HN.out] <;> rfl, HX.out.trans hx⟩
end Go.Proofs.YtnhpibnneidmgaaGreatDoor
