/- The law RiverTrue. -/
import Derived.Test.YtnhpibnneidmgaaGreatDoorFitp
import Derived.Test.YtnhpibnneidmgaaGreatDoorFitv
import Derived.Test.YtnhpibnneidmgaaGreatDoorRfit
import Derived.Test.YtnhpibnneidmgaaGreatDoorKnows
namespace Go.Proofs.YtnhpibnneidmgaaGreatDoor
open Go.RowKit
theorem at2_at {p : Rows2} {r y : Nat} {row : List (Int × Int)} {g : Int × Int} (h : p[r]? = some row) (k : row[y]? = some g) : at2 p r y = g := by
 unfold at2; rw [List.getD_eq_getElem?_getD, List.getD_eq_getElem?_getD, h]; show row[y]?.getD (0, 0) = g; rw [k]; rfl
theorem w2_at {W : List (List Int)} {r y : Nat} {row : List Int} {n : Int} (h : W[r]? = some row) (k : row[y]? = some n) : w2 W r y = n := by
 unfold w2; rw [List.getD_eq_getElem?_getD, List.getD_eq_getElem?_getD, h]; show row[y]?.getD 0 = n; rw [k]; rfl
theorem grow_at {b : Book} {r y : Nat} {R : River} {g : Int × Int} (h : b.rivers[r]? = some R) (k : R.grow[y]? = some g) : growOf b (r : Int) (y : Int) = g := by
 unfold growOf riverOf; simp only [Int.toNat_natCast]; rw [List.getD_eq_getElem?_getD, List.getD_eq_getElem?_getD, h]; show R.grow[y]?.getD (0, 0) = g; rw [k]; rfl
theorem true_in {b : Book} {s : Sack} (hB : BookB b) (hS : SackB s) {x : Truth} (h : FitsP b s x) {r y : Nat} {p : List (Int × Int)} {g t : Int × Int} {l : List Int} {n : Int} {R : River} (hR : b.rivers[r]? = some R) (ht : R.grow[y]? = some t) (hp : (weatherOf b s)[r]? = some p) (hg : p[y]? = some g) (hl : x.wea[r]? = some l) (hn : l[y]? = some n) :
  ¬ n < g.1 ∧ ¬ g.2 < n ∧ ¬ g.1 < t.1 ∧ ¬ t.2 < g.2 := by
 have hr := (List.getElem?_eq_some_iff.1 hR).1
 have hy : (y : Int) < b.years := by have h1 := (List.getElem?_eq_some_iff.1 ht).1; have h2 := hB.len R (List.mem_of_getElem? hR); omega
 have hpo := poss_of hB hS h
 have h1 := (wea_spec hB hS hpo hr hy).1 x h
 have h2 := wea_grow hB hS hpo hr hy
 rw [at2_at hp hg] at h1 h2
 rw [w2_at hl hn] at h1
 rw [grow_at hR ht] at h2
 omega
theorem could_short {b : Book} (hB : BookB b) (s : Sack) (i : Nat) : (couldOf b s i).length ≤ 30 := by
 have h1 := List.length_filter_le (fun o => (truthsOf b s).any fun x => orgAt x i == o) (originsOf b (s.shells.getD i ⟨[], 0⟩).rings.length)
 have h2 := originsOf_len hB (s.shells.getD i ⟨[], 0⟩).rings.length
 unfold couldOf; omega
set_option maxRecDepth 100000 in
set_option maxHeartbeats 32000000 in
theorem riverTrue_any (bv : Value) (b : Book) (sv : Value) (s : Sack) (xv : Value) (x : Truth) (w : World) (hb : BookAt w bv b) (hs : SackAt w sv s) (hx : TruthAt w xv x) (ht : TabOk w) :
  Calls Tryz.prog 9 #[bv, sv, xv] w (TrueP w) := by
 have HB := Lib.hid (LawB.of hb ht)
 have HBW := Lib.hid (fun w1 (h : Ext w w1) => hb.ext h)
 have HSW := Lib.hid (fun w1 (h : Ext w w1) => hs.ext h)
 have HBR := Lib.hid (fun w1 (h : Ext w w1) => brief_any sv s w1 (hs.ext h))
 have HSH := Lib.hid (fun w1 (h : Ext w w1) => short_any xv x w1 (hx.ext h))
 have HFI := Lib.hid (fun w1 (h : Ext w w1) => Fits_any bv sv xv b s x w1 (hb.ext h) (hs.ext h) (hx.ext h))
 have HSA := Lib.hid (fun w1 (h : Ext w w1) => rsack_any sv s w1 (hs.ext h))
 have HTR := Lib.hid (fun w1 (h : Ext w w1) => rtruth_any bv sv xv b s x w1 (hb.ext h) (hs.ext h) (hx.ext h))
 have hbs := hb
 have hss := hs
 obtain ⟨ra, rc, rfl, hr⟩ := hb.slice
 obtain ⟨_, _, hv, r1, r2, r3⟩ := hr.open
 cases hv
 obtain ⟨sa, sc, ta, tc, rfl, hsh, _⟩ := hs.slice
 obtain ⟨_, _, hv, s1, s2, s3⟩ := hsh.open
 cases hv
 obtain ⟨wv, ov, rfl, hw, ho⟩ := hx
 obtain ⟨wa, wc, rfl, w1, w2', w3⟩ := hw.open
 obtain ⟨oa, oc, rfl, o1, o2, o3⟩ := ho.open
 have H3 := Lib.hid r3
 have S3 := Lib.hid s3
 have W3 := Lib.hid w3
 have O3 := Lib.hid o3
 obtain ⟨W0, hW0⟩ : ∃ W0, W0 = ((w.alloc (.cells #[.int .i64 b.years, .slice ra b.rivers.length rc] 24)).alloc (.cells #[.slice sa s.shells.length sc, .slice ta s.tests.length tc] 28)).alloc (.cells #[.slice wa x.wea.length wc, .slice oa x.org.length oc] 81) := ⟨_, rfl⟩
 have HX0 := Lib.hid (show Ext w W0 by rw [hW0]; exact (((Ext.refl w).alloc _).alloc _).alloc _)
 have HS := Lib.hid (fun W (h : Ext W0 W) => (⟨h.cell (by rw [hW0]; go_simp), h.cell (by rw [hW0]; go_simp), h.cell (by rw [hW0]; go_simp), h.cell (by rw [hW0]; go_simp), h.cell (by rw [hW0]; go_simp), h.cell (by rw [hW0]; go_simp)⟩ :
  W.cell? ⟨w.heap.size, 0, none⟩ = some (.int .i64 b.years) ∧ W.cell? ⟨w.heap.size, 1, none⟩ = some (.slice ra b.rivers.length rc) ∧ W.cell? ⟨w.heap.size + 1, 0, none⟩ = some (.slice sa s.shells.length sc) ∧ W.cell? ⟨w.heap.size + 1, 1, none⟩ = some (.slice ta s.tests.length tc) ∧ W.cell? ⟨w.heap.size + 2, 0, none⟩ = some (.slice wa x.wea.length wc) ∧ W.cell? ⟨w.heap.size + 2, 1, none⟩ = some (.slice oa x.org.length oc)))
 clear hb ht hs hw ho hr hsh r3 s3 w3 o3 hbs hss
 go_enter Tryz.func9, Tryz.ntmps9
 go_upto_region 1 with fail
 rw [← hW0]
 clear hW0
 have hq := Ext.refl W0
 obtain ⟨z0, z1, z2, z3, z4, z5⟩ := HS.out _ hq
 cases h1 : slimB b with
 | false =>
  have HB1 := Lib.hid (fun w1 (h : Ext w w1) => h1 ▸ HB.out.slim w1 h)
  go_wp2_with (first | (go_at_call 13; refine (HB1.out _ (HX0.out.trans hq)).mono ?_; rintro e w' ⟨rfl, hx1⟩; replace hq := hq.trans hx1; clear hx1 z0 z1 z2 z3 z4 z5; obtain ⟨z0, z1, z2, z3, z4, z5⟩ := HS.out _ hq) | (go_at_call 19; refine (HB.out.known _ (HX0.out.trans hq)).mono ?_; rintro e w' ⟨rfl, hx1⟩; replace hq := hq.trans hx1; clear hx1 z0 z1 z2 z3 z4 z5; obtain ⟨z0, z1, z2, z3, z4, z5⟩ := HS.out _ hq))
  go_ret
  exact ⟨rfl, HX0.out.trans hq⟩
 | true =>
  have HB1 := Lib.hid (fun w1 (h : Ext w w1) => h1 ▸ HB.out.slim w1 h)
  cases h2 : briefB s with
  | false =>
   rw [h2] at HBR
   go_wp2_with (first | (go_at_call 13; refine (HB1.out _ (HX0.out.trans hq)).mono ?_; rintro e w' ⟨rfl, hx1⟩; replace hq := hq.trans hx1; clear hx1 z0 z1 z2 z3 z4 z5; obtain ⟨z0, z1, z2, z3, z4, z5⟩ := HS.out _ hq) | (go_at_call 14; refine (HBR.out _ (HX0.out.trans hq)).mono ?_; rintro e w' ⟨rfl, hx1⟩; replace hq := hq.trans hx1; clear hx1 z0 z1 z2 z3 z4 z5; obtain ⟨z0, z1, z2, z3, z4, z5⟩ := HS.out _ hq) | (go_at_call 19; refine (HB.out.known _ (HX0.out.trans hq)).mono ?_; rintro e w' ⟨rfl, hx1⟩; replace hq := hq.trans hx1; clear hx1 z0 z1 z2 z3 z4 z5; obtain ⟨z0, z1, z2, z3, z4, z5⟩ := HS.out _ hq))
   go_ret
   exact ⟨rfl, HX0.out.trans hq⟩
  | true =>
   rw [h2] at HBR
   cases h3 : shortB x with
   | false =>
    rw [h3] at HSH
    go_wp2_with (first | (go_at_call 13; refine (HB1.out _ (HX0.out.trans hq)).mono ?_; rintro e w' ⟨rfl, hx1⟩; replace hq := hq.trans hx1; clear hx1 z0 z1 z2 z3 z4 z5; obtain ⟨z0, z1, z2, z3, z4, z5⟩ := HS.out _ hq) | (go_at_call 14; refine (HBR.out _ (HX0.out.trans hq)).mono ?_; rintro e w' ⟨rfl, hx1⟩; replace hq := hq.trans hx1; clear hx1 z0 z1 z2 z3 z4 z5; obtain ⟨z0, z1, z2, z3, z4, z5⟩ := HS.out _ hq) | (go_at_call 37; refine (HSH.out _ (HX0.out.trans hq)).mono ?_; rintro e w' ⟨rfl, hx1⟩; replace hq := hq.trans hx1; clear hx1 z0 z1 z2 z3 z4 z5; obtain ⟨z0, z1, z2, z3, z4, z5⟩ := HS.out _ hq) | (go_at_call 19; refine (HB.out.known _ (HX0.out.trans hq)).mono ?_; rintro e w' ⟨rfl, hx1⟩; replace hq := hq.trans hx1; clear hx1 z0 z1 z2 z3 z4 z5; obtain ⟨z0, z1, z2, z3, z4, z5⟩ := HS.out _ hq))
    go_ret
    exact ⟨rfl, HX0.out.trans hq⟩
   | true =>
    rw [h3] at HSH
    cases h4 : isBookB b with
    | false =>
     have HB2 := Lib.hid (fun w1 (h : Ext w w1) => h4 ▸ HB.out.book w1 h)
     clear h1 h2 h3 h4
     go_wp2_with (first | (go_at_call 13; refine (HB1.out _ (HX0.out.trans hq)).mono ?_; rintro e w' ⟨rfl, hx1⟩; replace hq := hq.trans hx1; clear hx1 z0 z1 z2 z3 z4 z5; obtain ⟨z0, z1, z2, z3, z4, z5⟩ := HS.out _ hq) | (go_at_call 14; refine (HBR.out _ (HX0.out.trans hq)).mono ?_; rintro e w' ⟨rfl, hx1⟩; replace hq := hq.trans hx1; clear hx1 z0 z1 z2 z3 z4 z5; obtain ⟨z0, z1, z2, z3, z4, z5⟩ := HS.out _ hq) | (go_at_call 37; refine (HSH.out _ (HX0.out.trans hq)).mono ?_; rintro e w' ⟨rfl, hx1⟩; replace hq := hq.trans hx1; clear hx1 z0 z1 z2 z3 z4 z5; obtain ⟨z0, z1, z2, z3, z4, z5⟩ := HS.out _ hq) | (go_at_call 15; refine (HB2.out _ (HX0.out.trans hq)).mono ?_; rintro e w' ⟨rfl, hx1⟩; replace hq := hq.trans hx1; clear hx1 z0 z1 z2 z3 z4 z5; obtain ⟨z0, z1, z2, z3, z4, z5⟩ := HS.out _ hq) | (go_at_call 19; refine (HB.out.known _ (HX0.out.trans hq)).mono ?_; rintro e w' ⟨rfl, hx1⟩; replace hq := hq.trans hx1; clear hx1 z0 z1 z2 z3 z4 z5; obtain ⟨z0, z1, z2, z3, z4, z5⟩ := HS.out _ hq))
     go_ret
     exact ⟨rfl, HX0.out.trans hq⟩
    | true =>
     have HB2 := Lib.hid (fun w1 (h : Ext w w1) => h4 ▸ HB.out.book w1 h)
     cases h5 : isSackB s with
     | false =>
      rw [h5] at HSA
      clear h1 h2 h3 h4 h5
      go_wp2_with (first | (go_at_call 13; refine (HB1.out _ (HX0.out.trans hq)).mono ?_; rintro e w' ⟨rfl, hx1⟩; replace hq := hq.trans hx1; clear hx1 z0 z1 z2 z3 z4 z5; obtain ⟨z0, z1, z2, z3, z4, z5⟩ := HS.out _ hq) | (go_at_call 14; refine (HBR.out _ (HX0.out.trans hq)).mono ?_; rintro e w' ⟨rfl, hx1⟩; replace hq := hq.trans hx1; clear hx1 z0 z1 z2 z3 z4 z5; obtain ⟨z0, z1, z2, z3, z4, z5⟩ := HS.out _ hq) | (go_at_call 37; refine (HSH.out _ (HX0.out.trans hq)).mono ?_; rintro e w' ⟨rfl, hx1⟩; replace hq := hq.trans hx1; clear hx1 z0 z1 z2 z3 z4 z5; obtain ⟨z0, z1, z2, z3, z4, z5⟩ := HS.out _ hq) | (go_at_call 15; refine (HB2.out _ (HX0.out.trans hq)).mono ?_; rintro e w' ⟨rfl, hx1⟩; replace hq := hq.trans hx1; clear hx1 z0 z1 z2 z3 z4 z5; obtain ⟨z0, z1, z2, z3, z4, z5⟩ := HS.out _ hq) | (go_at_call 16; refine (HSA.out _ (HX0.out.trans hq)).mono ?_; rintro e w' ⟨rfl, hx1⟩; replace hq := hq.trans hx1; clear hx1 z0 z1 z2 z3 z4 z5; obtain ⟨z0, z1, z2, z3, z4, z5⟩ := HS.out _ hq) | (go_at_call 19; refine (HB.out.known _ (HX0.out.trans hq)).mono ?_; rintro e w' ⟨rfl, hx1⟩; replace hq := hq.trans hx1; clear hx1 z0 z1 z2 z3 z4 z5; obtain ⟨z0, z1, z2, z3, z4, z5⟩ := HS.out _ hq))
      go_ret
      exact ⟨rfl, HX0.out.trans hq⟩
     | true =>
      rw [h5] at HSA
      cases h6 : truthB b s x with
      | false =>
       rw [h6] at HTR
       clear h1 h2 h3 h4 h5 h6
       go_wp2_with (first | (go_at_call 13; refine (HB1.out _ (HX0.out.trans hq)).mono ?_; rintro e w' ⟨rfl, hx1⟩; replace hq := hq.trans hx1; clear hx1 z0 z1 z2 z3 z4 z5; obtain ⟨z0, z1, z2, z3, z4, z5⟩ := HS.out _ hq) | (go_at_call 14; refine (HBR.out _ (HX0.out.trans hq)).mono ?_; rintro e w' ⟨rfl, hx1⟩; replace hq := hq.trans hx1; clear hx1 z0 z1 z2 z3 z4 z5; obtain ⟨z0, z1, z2, z3, z4, z5⟩ := HS.out _ hq) | (go_at_call 37; refine (HSH.out _ (HX0.out.trans hq)).mono ?_; rintro e w' ⟨rfl, hx1⟩; replace hq := hq.trans hx1; clear hx1 z0 z1 z2 z3 z4 z5; obtain ⟨z0, z1, z2, z3, z4, z5⟩ := HS.out _ hq) | (go_at_call 15; refine (HB2.out _ (HX0.out.trans hq)).mono ?_; rintro e w' ⟨rfl, hx1⟩; replace hq := hq.trans hx1; clear hx1 z0 z1 z2 z3 z4 z5; obtain ⟨z0, z1, z2, z3, z4, z5⟩ := HS.out _ hq) | (go_at_call 16; refine (HSA.out _ (HX0.out.trans hq)).mono ?_; rintro e w' ⟨rfl, hx1⟩; replace hq := hq.trans hx1; clear hx1 z0 z1 z2 z3 z4 z5; obtain ⟨z0, z1, z2, z3, z4, z5⟩ := HS.out _ hq) | (go_at_call 39; refine (HTR.out _ (HX0.out.trans hq)).mono ?_; rintro e w' ⟨rfl, hx1⟩; replace hq := hq.trans hx1; clear hx1 z0 z1 z2 z3 z4 z5; obtain ⟨z0, z1, z2, z3, z4, z5⟩ := HS.out _ hq) | (go_at_call 19; refine (HB.out.known _ (HX0.out.trans hq)).mono ?_; rintro e w' ⟨rfl, hx1⟩; replace hq := hq.trans hx1; clear hx1 z0 z1 z2 z3 z4 z5; obtain ⟨z0, z1, z2, z3, z4, z5⟩ := HS.out _ hq))
       go_ret
       exact ⟨rfl, HX0.out.trans hq⟩
      | true =>
       rw [h6] at HTR
       have HPO := Lib.hid (fun w1 (h : Ext w w1) => Possible_ok (HBW.out w1 h) (HSW.out w1 h) h4 h5)
       have HF := Lib.hid (fun w1 (h : Ext w w1) => (show Calls Tryz.prog 38 _ w1 (fun e w' => e = .returned (.tuple #[.bool (fitsB b s x), .int .i64 0]) ∧ Ext w1 w') from (HFI.out w1 h).mono (fun e w' q => by unfold FitsRes at q; rw [show fitsArg b s x = true by unfold fitsArg; simp [h4, h5, h6]] at q; exact q)))
       cases h7 : fitsB b s x with
       | false =>
        rw [h7] at HF
        clear h1 h2 h3 h4 h5 h6 h7
        generalize possB b s = pb at *
        go_wp2_with (first | (go_at_call 13; refine (HB1.out _ (HX0.out.trans hq)).mono ?_; rintro e w' ⟨rfl, hx1⟩; replace hq := hq.trans hx1; clear hx1 z0 z1 z2 z3 z4 z5; obtain ⟨z0, z1, z2, z3, z4, z5⟩ := HS.out _ hq) | (go_at_call 14; refine (HBR.out _ (HX0.out.trans hq)).mono ?_; rintro e w' ⟨rfl, hx1⟩; replace hq := hq.trans hx1; clear hx1 z0 z1 z2 z3 z4 z5; obtain ⟨z0, z1, z2, z3, z4, z5⟩ := HS.out _ hq) | (go_at_call 37; refine (HSH.out _ (HX0.out.trans hq)).mono ?_; rintro e w' ⟨rfl, hx1⟩; replace hq := hq.trans hx1; clear hx1 z0 z1 z2 z3 z4 z5; obtain ⟨z0, z1, z2, z3, z4, z5⟩ := HS.out _ hq) | (go_at_call 15; refine (HB2.out _ (HX0.out.trans hq)).mono ?_; rintro e w' ⟨rfl, hx1⟩; replace hq := hq.trans hx1; clear hx1 z0 z1 z2 z3 z4 z5; obtain ⟨z0, z1, z2, z3, z4, z5⟩ := HS.out _ hq) | (go_at_call 16; refine (HSA.out _ (HX0.out.trans hq)).mono ?_; rintro e w' ⟨rfl, hx1⟩; replace hq := hq.trans hx1; clear hx1 z0 z1 z2 z3 z4 z5; obtain ⟨z0, z1, z2, z3, z4, z5⟩ := HS.out _ hq) | (go_at_call 39; refine (HTR.out _ (HX0.out.trans hq)).mono ?_; rintro e w' ⟨rfl, hx1⟩; replace hq := hq.trans hx1; clear hx1 z0 z1 z2 z3 z4 z5; obtain ⟨z0, z1, z2, z3, z4, z5⟩ := HS.out _ hq) | (go_at_call 38; refine (HF.out _ (HX0.out.trans hq)).mono ?_; rintro e w' ⟨rfl, hx1⟩; replace hq := hq.trans hx1; clear hx1 z0 z1 z2 z3 z4 z5; obtain ⟨z0, z1, z2, z3, z4, z5⟩ := HS.out _ hq) | (go_at_call 32; refine (HPO.out _ (HX0.out.trans hq)).mono ?_; rintro e w' ⟨rfl, hx1⟩; replace hq := hq.trans hx1; clear hx1 z0 z1 z2 z3 z4 z5; obtain ⟨z0, z1, z2, z3, z4, z5⟩ := HS.out _ hq) | (go_at_call 19; refine (HB.out.known _ (HX0.out.trans hq)).mono ?_; rintro e w' ⟨rfl, hx1⟩; replace hq := hq.trans hx1; clear hx1 z0 z1 z2 z3 z4 z5; obtain ⟨z0, z1, z2, z3, z4, z5⟩ := HS.out _ hq))
        go_ret
        exact ⟨rfl, HX0.out.trans hq⟩
       | true =>
        have HBB := Lib.hid (bookB_of h4)
        have HSB := Lib.hid (sackB_of h5)
        have HTT := Lib.hid (show (∀ l, l ∈ x.wea → (l.length : Int) = b.years) ∧ x.wea.length = b.rivers.length ∧ x.org.length = s.shells.length by
         unfold truthB at h6
         rw [Bool.and_eq_true, Bool.and_eq_true, decide_eq_true_eq, decide_eq_true_eq, Bool.not_eq_true', List.any_eq_false] at h6
         refine ⟨fun l hl => ?_, h6.1.2, h6.2⟩
         have := h6.1.1 l hl
         simpa using this)
        have HFP := Lib.hid ((fitsB_iff HBB.out HSB.out HTT.out.2.2).1 h7)
        have hpo := poss_of HBB.out HSB.out HFP.out
        rw [h7] at HF
        rw [hpo] at HPO
        have HWE := Lib.hid (fun w1 (h : Ext w w1) => Weather_ok (HBW.out w1 h) (HSW.out w1 h) (ask_ok h4 h5 rfl hpo))
        have HCL := Lib.hid (fun w1 (h : Ext w w1) => Closed_ok (HBW.out w1 h) (HSW.out w1 h) (ask_ok h4 h5 rfl hpo))
        have HOR := Lib.hid (fun (k : Nat) (hk : k < s.shells.length) w1 (h : Ext w w1) => Origins_ok (i := (k : Int)) (HBW.out w1 h) (HSW.out w1 h) (ask_ok h4 h5 (by rw [inB_iff]; omega) hpo))
        have HCO := Lib.hid (fun (gv : Value) (sh : Shell) (h0 : isShellB sh = true) w1 (h : Ext w w1) (hg : ShellAt w1 gv sh) => Could_ok (HBW.out w1 h) hg (by unfold couldArg; rw [h4, h0]; rfl))
        have HRO := Lib.hid (fun (o : Org) (n : Nat) (hn : n ≤ 1000) w1 (h : Ext w w1) => rorigin_any _ b o n w1 (HBW.out w1 h) HBB.out.y1 HBB.out.y2 hn)
        have HSHB := Lib.hid (show ∀ sh, sh ∈ s.shells → isShellB sh = true by
         unfold isSackB at h5
         rw [Bool.and_eq_true, Bool.and_eq_true, Bool.not_eq_true', List.any_eq_false] at h5
         intro sh hm
         have := h5.1.2 sh hm
         simpa using this)
        have HSP := Lib.hid (shape_weather HBB.out HSB.out hpo)
        have HCN := Lib.hid (closed_of HBB.out HSB.out HFP.out)
        have hpl : (weatherOf b s).length = b.rivers.length := HSP.out.1
        have HIN := Lib.hid (fun (r y : Nat) (p : List (Int × Int)) (g t : Int × Int) (l : List Int) (n : Int) (R : River) (hR : b.rivers[r]? = some R) (ht : R.grow[y]? = some t) (hp : (weatherOf b s)[r]? = some p) (hg : p[y]? = some g) (hl : x.wea[r]? = some l) (hn : l[y]? = some n) => true_in HBB.out HSB.out HFP.out hR ht hp hg hl hn)
        clear h1 h2 h3 h4 h5 h6 h7 hpo
        have hpn : (weatherOf b s).length = b.rivers.length := hpl
        clear hpl
        have HPL := Lib.hid hpn
        have t0 : ((( weatherOf b s).length : Int) != (b.rivers.length : Int)) = false := by rw [bne_eq_false_iff_eq]; omega
        rw [hpn] at HWE
        clear hpn t0
        generalize weatherOf b s = P at *
        generalize hcl : closedOf b s = cl at *
        obtain ⟨c1, c2⟩ := cl
        clear hcl
        go_upto_region 13 with (first | (go_at_call 13; refine (HB1.out _ (HX0.out.trans hq)).mono ?_; rintro e w' ⟨rfl, hx1⟩; replace hq := hq.trans hx1; clear hx1 z0 z1 z2 z3 z4 z5; obtain ⟨z0, z1, z2, z3, z4, z5⟩ := HS.out _ hq) | (go_at_call 14; refine (HBR.out _ (HX0.out.trans hq)).mono ?_; rintro e w' ⟨rfl, hx1⟩; replace hq := hq.trans hx1; clear hx1 z0 z1 z2 z3 z4 z5; obtain ⟨z0, z1, z2, z3, z4, z5⟩ := HS.out _ hq) | (go_at_call 37; refine (HSH.out _ (HX0.out.trans hq)).mono ?_; rintro e w' ⟨rfl, hx1⟩; replace hq := hq.trans hx1; clear hx1 z0 z1 z2 z3 z4 z5; obtain ⟨z0, z1, z2, z3, z4, z5⟩ := HS.out _ hq) | (go_at_call 15; refine (HB2.out _ (HX0.out.trans hq)).mono ?_; rintro e w' ⟨rfl, hx1⟩; replace hq := hq.trans hx1; clear hx1 z0 z1 z2 z3 z4 z5; obtain ⟨z0, z1, z2, z3, z4, z5⟩ := HS.out _ hq) | (go_at_call 16; refine (HSA.out _ (HX0.out.trans hq)).mono ?_; rintro e w' ⟨rfl, hx1⟩; replace hq := hq.trans hx1; clear hx1 z0 z1 z2 z3 z4 z5; obtain ⟨z0, z1, z2, z3, z4, z5⟩ := HS.out _ hq) | (go_at_call 39; refine (HTR.out _ (HX0.out.trans hq)).mono ?_; rintro e w' ⟨rfl, hx1⟩; replace hq := hq.trans hx1; clear hx1 z0 z1 z2 z3 z4 z5; obtain ⟨z0, z1, z2, z3, z4, z5⟩ := HS.out _ hq) | (go_at_call 38; refine (HF.out _ (HX0.out.trans hq)).mono ?_; rintro e w' ⟨rfl, hx1⟩; replace hq := hq.trans hx1; clear hx1 z0 z1 z2 z3 z4 z5; obtain ⟨z0, z1, z2, z3, z4, z5⟩ := HS.out _ hq) | (go_at_call 32; refine (HPO.out _ (HX0.out.trans hq)).mono ?_; rintro e w' ⟨rfl, hx1⟩; replace hq := hq.trans hx1; clear hx1 z0 z1 z2 z3 z4 z5; obtain ⟨z0, z1, z2, z3, z4, z5⟩ := HS.out _ hq) | (go_at_call 23; refine (HWE.out _ (HX0.out.trans hq)).mono ?_; rintro e w' ⟨va, vc, rfl, hx1, hp⟩; replace hq := hq.trans hx1; clear hx1 z0 z1 z2 z3 z4 z5; obtain ⟨z0, z1, z2, z3, z4, z5⟩ := HS.out _ hq; have HPW := Lib.hid hp; clear hp) | (go_at_call 33; refine (HCL.out _ (HX0.out.trans hq)).mono ?_; rintro e w' ⟨rfl, hx9⟩; replace hq := hq.trans hx9; clear z0 z1 z2 z3 z4 z5; obtain ⟨z0, z1, z2, z3, z4, z5⟩ := HS.out _ hq; obtain ⟨y0, y1, y2, y3, y4, y5⟩ := HS.out _ (hq.alloc (.cells #[.int .i64 c1, .int .i64 c2] 53))))
        obtain ⟨wk, hwk⟩ : ∃ wk : World, wk = w'.alloc (.cells #[.int .i64 c1, .int .i64 c2] 53) := ⟨_, rfl⟩
        have HQ := Lib.hid (show Ext W0 wk by rw [hwk]; exact hq.alloc _)
        have HXK := Lib.hid (HX0.out.trans HQ.out)
        have HPK := Lib.hid (show SpansOff (fun _ => False) wk (.slice va b.rivers.length vc) P by rw [hwk]; exact HPW.out.ext (hx9.alloc _))
        have HSK := Lib.hid (fun W (h : Ext wk W) => (⟨HS.out W (HQ.out.trans h), h.cell (by rw [hwk]; go_simp), h.cell (by rw [hwk]; go_simp)⟩ : _ ∧ W.cell? ⟨w'.heap.size, 0, none⟩ = some (.int .i64 c1) ∧ W.cell? ⟨w'.heap.size, 1, none⟩ = some (.int .i64 c2)))
        rw [← hwk]
        clear hwk hq hx9 y0 y1 y2 y3 y4 y5 z0 z1 z2 z3 z4 z5 HPW HS HF HPO HWE HCL HB1 HB2 HBR HSH HSA HTR HFI HQ
        generalize w'.heap.size = cb at *
        obtain ⟨_, _, hv, v1, v2, v3⟩ := HPK.out.open
        injection hv with e1 e2 e3
        subst e1 e3
        have V3 := Lib.hid v3
        clear v3 v1 e2
        have HWL := Lib.hid HTT.out.2.1
        go_wp2
        go_loopw [15] (fun i wr => ∃ k : Nat, k ≤ b.rivers.length ∧ i = .int .i64 k ∧ Ext wk wr) (fun i _ => b.rivers.length - (intOf i).toNat)
        case atStart => exact ⟨0, Nat.zero_le _, rfl, Ext.refl _⟩
        case round =>
         obtain ⟨k, hk, rfl, hx⟩ := hrel
         by_cases hlt : k < b.rivers.length
         ·obtain ⟨bb, bo, gv, R, rfl, hR, c0, c1', c2', hg⟩ := H3.out k hlt
          obtain ⟨lb, lo, lv, l, rfl, hl, c3, hli⟩ := W3.out k (by have := HWL.out; omega)
          obtain ⟨pb, po, pv, p, rfl, hp, c4, hpa⟩ := V3.out k (by have := HPL.out; omega)
          have x2 : decide ((k : Int) < (b.rivers.length : Int)) = true := by simpa using hlt
          have i1 : (0 : Int) ≤ (k : Int) := by omega
          have i2 : (k : Int) < (b.rivers.length : Int) := by omega
          have i3 : (k : Int) < (x.wea.length : Int) := by have := HWL.out; omega
          have HLL := Lib.hid (HTT.out.1 l (List.mem_of_getElem? hl.out))
          have HGL := Lib.hid (HBB.out.len R (List.mem_of_getElem? hR.out))
          have HPP := Lib.hid (HSP.out.2 p (List.mem_of_getElem? hp.out))
          obtain ⟨ga, gc, rfl, g1, g2, g3⟩ := hg.open
          obtain ⟨la, lc, rfl, l1, l2, l3⟩ := hli.open
          obtain ⟨qa, qc, rfl, q1, q2, q3⟩ := hpa.open
          have G3 := Lib.hid g3
          have L3 := Lib.hid l3
          have Q3 := Lib.hid q3
          have HF := Lib.hid (fun W (h : Ext wr W) => (⟨HSK.out W (hx.trans h), (HXK.out.trans (hx.trans h)).cell c0, (HXK.out.trans (hx.trans h)).cell c3, (hx.trans h).cell c4⟩ : _ ∧ _ ∧ _ ∧ _))
          have t1 : ((p.length : Int) != b.years) = false := by rw [bne_eq_false_iff_eq]; exact HPP.out
          obtain ⟨wo, rfl⟩ : ∃ wo : World, wo = wr := ⟨_, rfl⟩
          have HXO := Lib.hid hx
          clear hg hli hpa g3 l3 q3 c0 c1' c2' c3 c4 hx
          go_upto_region 16 with fail
          refine region_reads (C := fun W => Ext wo W) (by kernel_rfl) (by kernel_rfl) ((Ext.refl wo).drew) ?_
          repeat (first | go_big_quiet_skip | (go_big_quiet_want; go_big_quiet_op; first | go_big_quiet_on | (refine ⟨_, fun W hW => rfl, ?_⟩; go_big_quiet_on)) | (go_big_quiet_want; refine ⟨?_, fun W hW => ?_, ?_⟩; rotate_left; (· (obtain ⟨⟨⟨z0, z1, z2, z3, z4, z5⟩, z6, z7⟩, y0, y1, y2⟩ := HF.out W hW); go_simp; (first | with_reducible rfl)); (try simp only [Act.put, yA, yB, yC]); go_big_quiet_on))
          refine wpQuiet_nil ?_
          intro wq hq
          go_wp2
          go_loopw [16] (fun i wr => ∃ j : Nat, j ≤ p.length ∧ i = .int .i64 j ∧ Ext wo wr) (fun i _ => p.length - (intOf i).toNat)
          case atStart => exact ⟨0, Nat.zero_le _, rfl, hq⟩
          case round =>
           clear hq
           obtain ⟨j, hj, rfl, hx⟩ := hrel
           by_cases hjt : j < p.length
           ·as_aux_lemma =>
             have hjl : j < l.length := by have h1 := HLL.out; have h2 := HPP.out; omega
             have hjg : j < R.grow.length := by have h1 := HGL.out; have h2 := HPP.out; omega
             obtain ⟨nb, no, n, rfl, hn, d0⟩ := L3.out j hjl
             obtain ⟨tb, tf, t, rfl, htt, d1, d2⟩ := G3.out j hjg
             obtain ⟨ub, uf, g, rfl, hgt, d3, d4⟩ := Q3.out j hjt
             obtain ⟨n1, n2, n3, n4⟩ := HIN.out k j p g t l n R hR.out htt.out hp.out hgt.out hl.out hn.out
             have x3 : decide ((j : Int) < (p.length : Int)) = true := by simpa using hjt
             have i4 : (0 : Int) ≤ (j : Int) := by omega
             have i5 : (j : Int) < (p.length : Int) := by omega
             have i6 : (j : Int) < (l.length : Int) := by omega
             have i7 : (j : Int) < (R.grow.length : Int) := by omega
             obtain ⟨gl, gh⟩ := g
             obtain ⟨tl, th⟩ := t
             simp only at n1 n2 n3 n4 d1 d2 d3 d4
             replace n1 : decide (n < gl) = false := by simpa using n1
             replace n2 : decide (gh < n) = false := by simpa using n2
             replace n3 : decide (gl < tl) = false := by simpa using n3
             replace n4 : decide (th < gh) = false := by simpa using n4
             have HG := Lib.hid (fun W (h : Ext wr W) => (⟨HF.out W (hx.trans h), (HXK.out.trans (HXO.out.trans (hx.trans h))).cell d0, (HXK.out.trans (HXO.out.trans (hx.trans h))).cell d1, (HXK.out.trans (HXO.out.trans (hx.trans h))).cell d2, (HXO.out.trans (hx.trans h)).cell d3, (HXO.out.trans (hx.trans h)).cell d4⟩ : _ ∧ _ ∧ _ ∧ _ ∧ _ ∧ _))
             clear d0 d1 d2 d3 d4
             obtain ⟨⟨⟨⟨z0, z1, z2, z3, z4, z5⟩, z6, z7⟩, y0, y1, y2⟩, d0, d1, d2, d3, d4⟩ := HG.out _ (Ext.refl _)
             go_upto_region 22 with fail
             refine region_reads (C := fun W => Ext wr W) (by kernel_rfl) (by kernel_rfl) ((Ext.refl wr).drew) ?_
             repeat (first | go_big_quiet_skip | (go_big_quiet_want; go_big_quiet_op; first | go_big_quiet_on | (refine ⟨_, fun W hW => rfl, ?_⟩; go_big_quiet_on)) | (go_big_quiet_want; refine ⟨?_, fun W hW => ?_, ?_⟩; rotate_left; (· (obtain ⟨⟨⟨⟨z0, z1, z2, z3, z4, z5⟩, z6, z7⟩, y0, y1, y2⟩, d0, d1, d2, d3, d4⟩ := HG.out W hW); go_simp; (first | with_reducible rfl)); (try simp only [Act.put, yA, yB, yC]); go_big_quiet_on))
             refine wpQuiet_nil ?_
             intro wq hq
             go_wp2
             go_roundw
             case rel => exact ⟨j + 1, by omega, by go_num, hx.trans hq⟩
             case measure => simp [intOf]; omega
           ·have x3 : decide ((j : Int) < (p.length : Int)) = false := by simp; omega
            obtain ⟨⟨⟨z0, z1, z2, z3, z4, z5⟩, z6, z7⟩, y0, y1, y2⟩ := HF.out _ hx
            go_wp2
            go_roundw
            case rel => exact ⟨k + 1, by omega, by go_num, HXO.out.trans hx⟩
            case measure => simp [intOf]; omega
         ·have x2 : ¬ k < b.rivers.length := hlt
          obtain ⟨wo, rfl⟩ : ∃ wo : World, wo = wr := ⟨_, rfl⟩
          have HSO := Lib.hid (fun W (h : Ext wo W) => HSK.out W (hx.trans h))
          have HXO := Lib.hid (HXK.out.trans hx)
          obtain ⟨⟨z0, z1, z2, z3, z4, z5⟩, z6, z7⟩ := HSO.out _ (Ext.refl _)
          clear hx
          go_wp2
          clear hk hlt x2 HSK HPK HIN V3 W3 z0 z1 z2 z3 z4 z5 z6 z7
          go_loopw [19, 18] (fun i c wr => ∃ k n : Nat, k ≤ s.shells.length ∧ i = .int .i64 k ∧ c = .int .i64 n ∧ n ≤ k ∧ Hid (n = (x.org.take k).countP (closedB b)) ∧ Ext wo wr) (fun i _ _ => s.shells.length - (intOf i).toNat)
          case atStart => exact ⟨0, 0, Nat.zero_le _, rfl, rfl, Nat.le_refl _, by simp [Hid], Ext.refl _⟩
          case round =>
           obtain ⟨k, cn, hk, rfl, rfl, hcn, hcnt, hx⟩ := hrel
           obtain ⟨⟨z0, z1, z2, z3, z4, z5⟩, z6, z7⟩ := HSO.out _ hx
           have hs4 := HSB.out.n2
           by_cases hks : k < s.shells.length
           ·as_aux_lemma =>
             obtain ⟨ob, of, og, rfl, ho, c0, c1'⟩ := O3.out k (by have := HTT.out.2.2; omega)
             obtain ⟨sb, sf, rv, sh, rfl, hsh, c3, c4, hri⟩ := S3.out k hks
             have hshm := List.mem_of_getElem? hsh.out
             have hsa : shellAt s k = sh := by unfold shellAt; rw [List.getD_eq_getElem?_getD, hsh.out]; rfl
             have hok := HFP.out.2.2 k og ho.out
             unfold OkAt at hok
             rw [hsa] at hok
             have HSB1 := HSB.out.shell sh hshm
             obtain ⟨r, y, rfl, hrl, hyl, hyn⟩ := originsOf_mem HBB.out HSB1.n1 hok.1
             obtain ⟨rb, ro, gv, R, rfl, hR, e0, e1, e2, hg⟩ := H3.out r hrl
             have hn5 := HSB1.n2
             have hn1 := HSB1.n1
             have hcl := HBB.out.closed R (List.mem_of_getElem? hR.out)
             have hp64 : (2 : Int) ^ b.years.toNat ≤ 64 := by
              have h := HBB.out.y1
              have h6 := HBB.out.y2
              rcases (by omega : b.years.toNat = 1 ∨ b.years.toNat = 2 ∨ b.years.toNat = 3 ∨ b.years.toNat = 4 ∨ b.years.toNat = 5 ∨ b.years.toNat = 6) with h | h | h | h | h | h <;> rw [h] <;> decide
             obtain ⟨c, hc⟩ : ∃ c : Nat, R.closed = c := ⟨R.closed.toNat, by omega⟩
             have hcb := closedB_nat (y := y) hR.out hc
             have hc64 : c < 64 := by omega
             have hy6 := HBB.out.y2
             have hbt := (has_bits c y (by omega)).trans hcb.symm
             have y6 : (y : Int) < 64 := by omega
             rw [hc] at e2
             have HCN2 := Lib.hid (countP_succ (b := b) ho.out)
             have HOG := Lib.hid (show originB b ((r : Int), (y : Int)) sh.rings.length = true by rw [originB_eq hn1, isOrg_iff HBB.out hn1]; exact hok.1)
             have HME := Lib.hid (could_of HBB.out HSB.out HFP.out ho.out)
             have HLT := Lib.hid (could_short HBB.out s k)
             have HSU := Lib.hid (fun (o : Org) (h : o ∈ couldOf b s k) => hsa ▸ could_sub HBB.out HSB.out hks h)
             have HL2 := Lib.hid (could_len HBB.out HSB1)
             have HSHK := Lib.hid (HSHB.out sh hshm)
             clear hcl hp64 hc hcb hg e0 e1 hok hshm hsa HSB1
             simp only at c0 c1'
             have x2 : decide ((k : Int) < (s.shells.length : Int)) = true := by simpa using hks
             have i1 : (0 : Int) ≤ (k : Int) := by omega
             have i2 : (k : Int) < (x.org.length : Int) := by have := HTT.out.2.2; omega
             have i3 : (k : Int) < (s.shells.length : Int) := by omega
             have i4 : (0 : Int) ≤ (r : Int) := by omega
             have i5 : (r : Int) < (b.rivers.length : Int) := by omega
             have HOK := Lib.hid (fun w1 (h : Ext w w1) => (show Calls Tryz.prog 20 _ w1 (SliceP (fun w v => PairsAt w v (couldOf b s k)) (couldOf b s k).length 0 w1) from HOR.out k hks w1 h))
             generalize couldOf b s k = L1 at *
             obtain ⟨ia, ic, rfl, _, _, _⟩ := hri.open
             have HRI := Lib.hid (fun W (h : Ext w W) => (show ShellAt W (.agg #[.slice ia sh.rings.length ic, .int .i64 sh.off]) sh from ⟨_, rfl, hri.ext h⟩))
             have HXR := Lib.hid (HXO.out.trans hx)
             have d0 := HXR.out.cell c0
             have d1 := HXR.out.cell c1'
             have HO := Lib.hid (fun W (h : Ext (wr.alloc (.cells #[.int .i64 (r : Int), .int .i64 (y : Int)] 50)) W) => (⟨HSO.out W (hx.trans (((Ext.refl wr).alloc _).trans h)), (HXR.out.trans (((Ext.refl wr).alloc _).trans h)).cell c3, (HXR.out.trans (((Ext.refl wr).alloc _).trans h)).cell c4, (HXR.out.trans (((Ext.refl wr).alloc _).trans h)).cell e2, h.cell (by go_simp), h.cell (by go_simp)⟩ :
              _ ∧ _ ∧ _ ∧ _ ∧ W.cell? ⟨wr.heap.size, 0, none⟩ = some (.int .i64 (r : Int)) ∧ W.cell? ⟨wr.heap.size, 1, none⟩ = some (.int .i64 (y : Int))))
             clear hri c0 c1' c3 c4 e2
             go_upto_region 29 with fail
             obtain ⟨wp, hwp⟩ : ∃ wp : World, wp = wr.alloc (.cells #[.int .i64 (r : Int), .int .i64 (y : Int)] 50) := ⟨_, rfl⟩
             have HXP := Lib.hid (show Ext w wp by rw [hwp]; exact HXR.out.alloc _)
             have HXQ := Lib.hid (show Ext wo wp by rw [hwp]; exact hx.alloc _)
             rw [← hwp] at HO ⊢
             clear hwp hx HXR d0 d1 z0 z1 z2 z3 z4 z5 z6 z7
             generalize wr.heap.size = gb at *
             obtain ⟨⟨⟨z0, z1, z2, z3, z4, z5⟩, z6, z7⟩, y0, y1, y2, y3, y4⟩ := HO.out _ (Ext.refl _)
             go_upto_region 30 with (go_at_call 20; refine (HOK.out _ HXP.out).mono ?_; rintro e wa1 ⟨l1, l1c, rfl, hx1, hp1⟩; have HP1 := Lib.hid hp1; clear hp1)
             have HO1 := Lib.hid (fun W (h : Ext wa1 W) => HO.out W (hx1.trans h))
             have HXA := Lib.hid (HXP.out.trans hx1)
             have HXB := Lib.hid (HXQ.out.trans hx1)
             clear z0 z1 z2 z3 z4 z5 z6 z7 y0 y1 y2 y3 y4 HOK
             have HFC := Lib.hid (fun W (h : Ext wa1 W) => (⟨(HO1.out W h).1.1.1, (HO1.out W h).1.1.2.1, (HO1.out W h).1.1.2.2.1, (HO1.out W h).2.1, (HO1.out W h).2.2.1⟩ : _ ∧ _ ∧ _ ∧ _ ∧ _))
             generalize hL2 : couldOf b (oneOf sh) 0 = L2 at *
             have HCO2 := Lib.hid (fun w1 (h : Ext w w1) => hL2 ▸ HCO.out _ sh HSHK.out w1 h (HRI.out w1 h))
             clear hL2 hx1
             go_region_held3 (fun w' => w'.cell? ⟨w.heap.size, 0, none⟩ = some (.int .i64 b.years) ∧ w'.cell? ⟨w.heap.size, 1, none⟩ = some (.slice (some ⟨rb, ro, none⟩) b.rivers.length rc) ∧ w'.cell? ⟨w.heap.size + 1, 0, none⟩ = some (.slice (some ⟨sb, sf, none⟩) s.shells.length sc) ∧ w'.cell? ⟨sb, sf + k * 2, none⟩ = some (.slice ia sh.rings.length ic) ∧ w'.cell? ⟨sb, sf + k * 2 + 1, none⟩ = some (.int .i64 sh.off)) (first | exact HFC.out _ (by repeat (first | assumption | exact Ext.refl _ | apply Ext.drew | apply Ext.alloc)))
              (first | (go_at_call 21; refine (HCO2.out _ (HXA.out.trans (by repeat (first | assumption | exact Ext.refl _ | apply Ext.drew | apply Ext.alloc)))).mono ?_; rintro e wa2 ⟨l2, l2c, rfl, hz, hp2⟩; have HP2 := Lib.hid hp2; have hY : Ext wa1 wa2 := Ext.trans (by repeat (first | assumption | exact Ext.refl _ | apply Ext.drew | apply Ext.alloc)) hz; clear hz hp2))
             have HO2 := Lib.hid (fun W (h : Ext wa2 W) => HO1.out W (hY.trans h))
             have HOGC := Lib.hid (fun w1 (h : Ext w w1) => HOG.out ▸ HRO.out ((r : Int), (y : Int)) sh.rings.length (by omega) w1 h)
             have t30 : decide ((30 : Int) < (L1.length : Int)) = false := by have := HLT.out; simp; omega
             go_upto_region 31 with fail
             refine region_reads (C := fun W => Ext wa2 W) (by kernel_rfl) (by kernel_rfl) ((Ext.refl wa2).drew) ?_
             repeat (first | go_big_quiet_skip | (go_big_quiet_want; go_big_quiet_op; first | go_big_quiet_on | (refine ⟨_, fun W hW => rfl, ?_⟩; go_big_quiet_on)) | (go_big_quiet_want; refine ⟨?_, fun W hW => ?_, ?_⟩; rotate_left; (· (obtain ⟨⟨⟨z0, z1, z2, z3, z4, z5⟩, z6, z7⟩, y0, y1, y2, y3, y4⟩ := HO2.out W hW); go_simp; (first | with_reducible rfl | (go_at_call 41; refine (HOGC.out W (HXA.out.trans (hY.trans hW))).mono ?_; rintro e w' ⟨rfl, hx1⟩; constructor; with_reducible rfl; exact hW.trans hx1) | (go_at_call 24; refine (has_yes (o := ((r : Int), (y : Int))) (HP1.out.ext (hY.trans hW)) HLT.out HME.out).mono ?_; rintro e w' ⟨rfl, hx1⟩; constructor; with_reducible rfl; exact hW.trans hx1))); (try simp only [Act.put, yA, yB, yC]); go_big_quiet_on))
             refine wpQuiet_nil ?_
             intro wq hq
             go_wp2
             go_loopw [25] (fun i wr => ∃ m : Nat, m ≤ L1.length ∧ i = .int .i64 m ∧ Ext wa2 wr) (fun i _ => L1.length - (intOf i).toNat)
             case atStart => exact ⟨0, Nat.zero_le _, rfl, hq⟩
             case round =>
              clear hq
              obtain ⟨m, hm, rfl, hxm⟩ := hrel
              by_cases hmt : m < L1.length
              ·obtain ⟨_, _, hv1, _, _, p3⟩ := (HP1.out.ext (hY.trans hxm)).open
               injection hv1 with e1 e2 e3
               subst e1 e3
               obtain ⟨mb, mo, xo, rfl, hxo, f0, f1⟩ := p3 m hmt
               have HM2 := Lib.hid (HSU.out xo (List.mem_of_getElem? hxo.out))
               obtain ⟨xp, xq⟩ := xo
               simp only at f0 f1
               have x3 : decide ((m : Int) < (L1.length : Int)) = true := by simpa using hmt
               have i6 : (0 : Int) ≤ (m : Int) := by omega
               have i7 : (m : Int) < (L1.length : Int) := by omega
               clear p3 e2 hxo
               go_wp2_with (go_at_call 24; refine (has_yes (o := (xp, xq)) (HP2.out.ext hxm) (by have := HL2.out; omega) HM2.out).mono ?_; rintro e w6 ⟨rfl, hx6⟩)
               go_roundw
               case rel => exact ⟨m + 1, by omega, by go_num, hxm.trans hx6⟩
               case measure => simp [intOf]; omega
              ·have x3 : decide ((m : Int) < (L1.length : Int)) = false := by simp; omega
               have HO3 := Lib.hid (fun W (h : Ext wr W) => HO2.out W (hxm.trans h))
               cases hcb : closedB b ((r : Int), (y : Int)) with
               | true =>
                rw [hcb] at hbt
                have hcn3 : (x.org.take (k + 1)).countP (closedB b) = cn + 1 := by rw [HCN2.out, hcb, ← hcnt.out]; rfl
                clear hcb
                go_upto_region 38 with fail
                refine region_reads (C := fun W => Ext wr W) (by kernel_rfl) (by kernel_rfl) ((Ext.refl wr).drew) ?_
                repeat (first | go_big_quiet_skip | (go_big_quiet_want; go_big_quiet_op; first | go_big_quiet_on | (refine ⟨_, fun W hW => rfl, ?_⟩; go_big_quiet_on)) | (go_big_quiet_want; refine ⟨?_, fun W hW => ?_, ?_⟩; rotate_left; (· (obtain ⟨⟨⟨z0, z1, z2, z3, z4, z5⟩, z6, z7⟩, y0, y1, y2, y3, y4⟩ := HO3.out W hW); go_simp; (first | with_reducible rfl)); (try simp only [Act.put, yA, yB, yC]); go_big_quiet_on))
                refine wpQuiet_nil ?_
                intro wq hq
                go_wp2
                go_roundw
                case rel => exact ⟨k + 1, cn + 1, by omega, by go_num, by go_num, by omega, hcn3.symm, HXB.out.trans (hY.trans (hxm.trans hq))⟩
                case measure => simp [intOf]; omega
               | false =>
                rw [hcb] at hbt
                have hcn3 : (x.org.take (k + 1)).countP (closedB b) = cn + 0 := by rw [HCN2.out, hcb, ← hcnt.out]; rfl
                clear hcb
                go_upto_region 38 with fail
                refine region_reads (C := fun W => Ext wr W) (by kernel_rfl) (by kernel_rfl) ((Ext.refl wr).drew) ?_
                repeat (first | go_big_quiet_skip | (go_big_quiet_want; go_big_quiet_op; first | go_big_quiet_on | (refine ⟨_, fun W hW => rfl, ?_⟩; go_big_quiet_on)) | (go_big_quiet_want; refine ⟨?_, fun W hW => ?_, ?_⟩; rotate_left; (· (obtain ⟨⟨⟨z0, z1, z2, z3, z4, z5⟩, z6, z7⟩, y0, y1, y2, y3, y4⟩ := HO3.out W hW); go_simp; (first | with_reducible rfl)); (try simp only [Act.put, yA, yB, yC]); go_big_quiet_on))
                refine wpQuiet_nil ?_
                intro wq hq
                go_wp2
                go_roundw
                case rel => exact ⟨k + 1, cn + 0, by omega, by go_num, by go_num, by omega, hcn3.symm, HXB.out.trans (hY.trans (hxm.trans hq))⟩
                case measure => simp [intOf]; omega
           ·have x2 : decide ((k : Int) < (s.shells.length : Int)) = false := by simp; omega
            have hke : k = s.shells.length := by omega
            have hcc : (cn : Int) = (closedN b x.org : Nat) := by
             have h1 := hcnt.out
             rw [List.take_of_length_le (by have := HTT.out.2.2; omega)] at h1
             rw [h1]; rfl
            have hc1 := HCN.out.1
            have hc2 := HCN.out.2
            rw [← hcc] at hc1 hc2
            have n1 : ¬ (cn : Int) < c1 := by omega
            have n2 : ¬ c2 < (cn : Int) := by omega
            clear hke hcc hcnt
            go_wp2_with (go_at_call 19; refine (HB.out.known _ (HXO.out.trans hx)).mono ?_; rintro e w' ⟨rfl, hx1⟩)
            go_ret
            exact ⟨rfl, (HXO.out.trans hx).trans hx1⟩
end Go.Proofs.YtnhpibnneidmgaaGreatDoor
