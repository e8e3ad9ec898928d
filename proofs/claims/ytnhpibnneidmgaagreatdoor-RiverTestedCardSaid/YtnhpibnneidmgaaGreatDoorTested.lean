/- The law RiverTested. -/
import Derived.Test.YtnhpibnneidmgaaGreatDoorTstp
import Derived.Test.YtnhpibnneidmgaaGreatDoorFitv
import Derived.Test.YtnhpibnneidmgaaGreatDoorRfit
import Derived.Test.YtnhpibnneidmgaaGreatDoorKnows
namespace Go.Proofs.YtnhpibnneidmgaaGreatDoor
open Go.RowKit
theorem E_tests : Elem Tryz.prog 26 33 2 16 (.agg #[.int .i64 0, .bool false]) := by
 obtain ⟨i, h1, h2, h3, h4⟩ := info_parts (P := Tryz.prog) (e := 33) (z := .agg #[.int .i64 0, .bool false]) (size := 2) (bytes := 16) (by kernel_rfl)
 exact ⟨Tryz.underlying26, ⟨i, h1, h2, h3, h4⟩, rfl, by decide⟩
theorem tests_len (xs : List (Int × Bool)) : (xs.flatMap testC).length = xs.length * 2 := by
 induction xs with
 | nil => rfl
 | cons x xs ih => rw [List.flatMap_cons, List.length_append, ih, List.length_cons]; show 2 + _ = _; omega
theorem tests_one (xs : List (Int × Bool)) : ∀ u, u ∈ xs.flatMap testC → u.oneCell' = true := by
 intro u hu
 obtain ⟨x, _, h⟩ := List.mem_flatMap.1 hu
 unfold testC at h
 simp only [List.mem_cons, List.not_mem_nil, or_false] at h
 rcases h with rfl | rfl <;> rfl
/-- What Tests answers. -/
def TV (b : Book) (s : Sack) (m : Int) (ts : List (Int × Bool)) (t n f : Int) : Prop := (f = 5 ∧ knownB m (patternsOf b (tsack s ts)) = true ∧ t = 0 ∧ n = 0) ∨ (f = 0 ∧ knownB m (patternsOf b (tsack s ts)) = false ∧ bestP m (patternsOf b (tsack s ts)) = (t, n))
theorem Tests_tv {bv sv : Value} {b : Book} {s : Sack} {m : Int} {ts : List (Int × Bool)} {w : World} (hb : BookAt w bv b) (hs : SackAt w sv (tsack s ts)) (h : askN b (tsack s ts) (inB m 0 4) = 0) :
  Calls Tryz.prog 25 #[bv, sv, .int .i64 m] w fun e w' => ∃ t n f : Int, e = .returned (.tuple #[.int .i64 t, .int .i64 n, .int .i64 f]) ∧ Ext w w' ∧ TV b s m ts t n f :=
 (Tests_any bv sv b (tsack s ts) m w hb hs).mono fun e w' q => by
  unfold TestsRes at q
  rw [if_pos h] at q
  cases hk : knownB m (patternsOf b (tsack s ts)) with
  | true => rw [hk] at q; exact ⟨0, 0, 5, q.1, q.2, .inl ⟨rfl, hk, rfl, rfl⟩⟩
  | false => rw [hk] at q; exact ⟨_, _, 0, q.1, q.2, .inr ⟨rfl, hk, rfl⟩⟩
theorem TV.num {b : Book} {s : Sack} {x : Truth} {m : Int} {ts : List (Int × Bool)} {k : Nat} {t n f : Int} (hB : BookB b) (hI : TInv b s x m ts k) (h : TV b s m ts t n f) : 0 ≤ n ∧ n ≤ 4 := by
 have hS := sackB_of hI.sk
 rcases h with ⟨_, _, _, rfl⟩ | ⟨_, hk, he⟩
 ·omega
 ·obtain ⟨t', ht, hsp, hbe, h1, h2⟩ := best_spec hS.n2 (pats_two hB hS) hk
  rw [hbe] at he
  have : n = askN1 m (patternsOf b (tsack s ts)) t' := (congrArg Prod.snd he).symm
  have := hS.n2
  omega
set_option maxRecDepth 100000 in
set_option maxHeartbeats 32000000 in
theorem riverTested_any (bv : Value) (b : Book) (sv : Value) (s : Sack) (xv : Value) (x : Truth) (m : Int) (w : World) (hb : BookAt w bv b) (hs : SackAt w sv s) (hx : TruthAt w xv x) (ht : TabOk w) :
  Calls Tryz.prog 8 #[bv, sv, xv, .int .i64 m] w (TrueP w) := by
 have HB := Lib.hid (LawB.of hb ht)
 have HBW := Lib.hid (fun w1 (h : Ext w w1) => hb.ext h)
 have HSW := Lib.hid (fun w1 (h : Ext w w1) => hs.ext h)
 have HBR := Lib.hid (fun w1 (h : Ext w w1) => brief_any sv s w1 (hs.ext h))
 have HSH := Lib.hid (fun w1 (h : Ext w w1) => short_any xv x w1 (hx.ext h))
 have HFI := Lib.hid (fun w1 (h : Ext w w1) => Fits_any bv sv xv b s x w1 (hb.ext h) (hs.ext h) (hx.ext h))
 have HSA := Lib.hid (fun w1 (h : Ext w w1) => rsack_any sv s w1 (hs.ext h))
 have HTR := Lib.hid (fun w1 (h : Ext w w1) => rtruth_any bv sv xv b s x w1 (hb.ext h) (hs.ext h) (hx.ext h))
 obtain ⟨ra, rc, rfl, hr⟩ := hb.slice
 obtain ⟨sa, sc, ta, tc, rfl, hsh, hte⟩ := hs.slice
 obtain ⟨_, _, hv, s1, s2, s3⟩ := hsh.open
 cases hv
 obtain ⟨_, _, hv, t1', t2', _⟩ := RowAt.open hte
 cases hv
 obtain ⟨wv, ov, rfl, hw, ho⟩ := hx
 obtain ⟨wa, wc, rfl, _⟩ := hw.open
 obtain ⟨oa, oc, rfl, o1, o2, o3⟩ := ho.open
 have S3 := Lib.hid s3
 have O3 := Lib.hid o3
 have HSHW := Lib.hid (fun w1 (h : Ext w w1) => hsh.ext h)
 have HTEW := Lib.hid (fun w1 (h : Ext w w1) => RowOf.ext hte h)
 obtain ⟨W0, hW0⟩ : ∃ W0, W0 = ((w.alloc (.cells #[.int .i64 b.years, .slice ra b.rivers.length rc] 24)).alloc (.cells #[.slice sa s.shells.length sc, .slice ta s.tests.length tc] 28)).alloc (.cells #[.slice wa x.wea.length wc, .slice oa x.org.length oc] 81) := ⟨_, rfl⟩
 have HX0 := Lib.hid (show Ext w W0 by rw [hW0]; exact (((Ext.refl w).alloc _).alloc _).alloc _)
 have HS := Lib.hid (fun W (h : Ext W0 W) => (⟨h.cell (by rw [hW0]; go_simp), h.cell (by rw [hW0]; go_simp), h.cell (by rw [hW0]; go_simp), h.cell (by rw [hW0]; go_simp), h.cell (by rw [hW0]; go_simp), h.cell (by rw [hW0]; go_simp), (h.frozen (by rw [hW0]; simp)).trans (by rw [hW0]; go_simp)⟩ :
  W.cell? ⟨w.heap.size, 0, none⟩ = some (.int .i64 b.years) ∧ W.cell? ⟨w.heap.size, 1, none⟩ = some (.slice ra b.rivers.length rc) ∧ W.cell? ⟨w.heap.size + 1, 0, none⟩ = some (.slice sa s.shells.length sc) ∧ W.cell? ⟨w.heap.size + 1, 1, none⟩ = some (.slice ta s.tests.length tc) ∧ W.cell? ⟨w.heap.size + 2, 0, none⟩ = some (.slice wa x.wea.length wc) ∧ W.cell? ⟨w.heap.size + 2, 1, none⟩ = some (.slice oa x.org.length oc) ∧ W.frozen? ⟨w.heap.size + 1, 1, none⟩ = false))
 clear hb ht hs hw ho hr hsh hte s3 o3
 go_enter Tryz.func8, Tryz.ntmps8
 go_upto_region 1 with fail
 rw [← hW0]
 clear hW0
 have hq := Ext.refl W0
 obtain ⟨z0, z1, z2, z3, z4, z5, z6⟩ := HS.out _ hq
 cases h1 : slimB b with
 | false =>
  have HB1 := Lib.hid (fun w1 (h : Ext w w1) => h1 ▸ HB.out.slim w1 h)
  go_wp2_with (first | (go_at_call 13; refine (HB1.out _ (HX0.out.trans hq)).mono ?_; rintro e w' ⟨rfl, hx1⟩; replace hq := hq.trans hx1; clear hx1 z0 z1 z2 z3 z4 z5 z6; obtain ⟨z0, z1, z2, z3, z4, z5, z6⟩ := HS.out _ hq) | (go_at_call 19; refine (HB.out.known _ (HX0.out.trans hq)).mono ?_; rintro e w' ⟨rfl, hx1⟩; replace hq := hq.trans hx1; clear hx1 z0 z1 z2 z3 z4 z5 z6; obtain ⟨z0, z1, z2, z3, z4, z5, z6⟩ := HS.out _ hq))
  go_ret
  exact ⟨rfl, HX0.out.trans hq⟩
 | true =>
  have HB1 := Lib.hid (fun w1 (h : Ext w w1) => h1 ▸ HB.out.slim w1 h)
  cases h2 : briefB s with
  | false =>
   rw [h2] at HBR
   go_wp2_with (first | (go_at_call 13; refine (HB1.out _ (HX0.out.trans hq)).mono ?_; rintro e w' ⟨rfl, hx1⟩; replace hq := hq.trans hx1; clear hx1 z0 z1 z2 z3 z4 z5 z6; obtain ⟨z0, z1, z2, z3, z4, z5, z6⟩ := HS.out _ hq) | (go_at_call 14; refine (HBR.out _ (HX0.out.trans hq)).mono ?_; rintro e w' ⟨rfl, hx1⟩; replace hq := hq.trans hx1; clear hx1 z0 z1 z2 z3 z4 z5 z6; obtain ⟨z0, z1, z2, z3, z4, z5, z6⟩ := HS.out _ hq) | (go_at_call 19; refine (HB.out.known _ (HX0.out.trans hq)).mono ?_; rintro e w' ⟨rfl, hx1⟩; replace hq := hq.trans hx1; clear hx1 z0 z1 z2 z3 z4 z5 z6; obtain ⟨z0, z1, z2, z3, z4, z5, z6⟩ := HS.out _ hq))
   go_ret
   exact ⟨rfl, HX0.out.trans hq⟩
  | true =>
   rw [h2] at HBR
   cases h3 : shortB x with
   | false =>
    rw [h3] at HSH
    go_wp2_with (first | (go_at_call 13; refine (HB1.out _ (HX0.out.trans hq)).mono ?_; rintro e w' ⟨rfl, hx1⟩; replace hq := hq.trans hx1; clear hx1 z0 z1 z2 z3 z4 z5 z6; obtain ⟨z0, z1, z2, z3, z4, z5, z6⟩ := HS.out _ hq) | (go_at_call 14; refine (HBR.out _ (HX0.out.trans hq)).mono ?_; rintro e w' ⟨rfl, hx1⟩; replace hq := hq.trans hx1; clear hx1 z0 z1 z2 z3 z4 z5 z6; obtain ⟨z0, z1, z2, z3, z4, z5, z6⟩ := HS.out _ hq) | (go_at_call 37; refine (HSH.out _ (HX0.out.trans hq)).mono ?_; rintro e w' ⟨rfl, hx1⟩; replace hq := hq.trans hx1; clear hx1 z0 z1 z2 z3 z4 z5 z6; obtain ⟨z0, z1, z2, z3, z4, z5, z6⟩ := HS.out _ hq) | (go_at_call 19; refine (HB.out.known _ (HX0.out.trans hq)).mono ?_; rintro e w' ⟨rfl, hx1⟩; replace hq := hq.trans hx1; clear hx1 z0 z1 z2 z3 z4 z5 z6; obtain ⟨z0, z1, z2, z3, z4, z5, z6⟩ := HS.out _ hq))
    go_ret
    exact ⟨rfl, HX0.out.trans hq⟩
   | true =>
    rw [h3] at HSH
    cases h4 : isBookB b with
    | false =>
     have HB2 := Lib.hid (fun w1 (h : Ext w w1) => h4 ▸ HB.out.book w1 h)
     clear h1 h2 h3 h4
     go_wp2_with (first | (go_at_call 13; refine (HB1.out _ (HX0.out.trans hq)).mono ?_; rintro e w' ⟨rfl, hx1⟩; replace hq := hq.trans hx1; clear hx1 z0 z1 z2 z3 z4 z5 z6; obtain ⟨z0, z1, z2, z3, z4, z5, z6⟩ := HS.out _ hq) | (go_at_call 14; refine (HBR.out _ (HX0.out.trans hq)).mono ?_; rintro e w' ⟨rfl, hx1⟩; replace hq := hq.trans hx1; clear hx1 z0 z1 z2 z3 z4 z5 z6; obtain ⟨z0, z1, z2, z3, z4, z5, z6⟩ := HS.out _ hq) | (go_at_call 37; refine (HSH.out _ (HX0.out.trans hq)).mono ?_; rintro e w' ⟨rfl, hx1⟩; replace hq := hq.trans hx1; clear hx1 z0 z1 z2 z3 z4 z5 z6; obtain ⟨z0, z1, z2, z3, z4, z5, z6⟩ := HS.out _ hq) | (go_at_call 15; refine (HB2.out _ (HX0.out.trans hq)).mono ?_; rintro e w' ⟨rfl, hx1⟩; replace hq := hq.trans hx1; clear hx1 z0 z1 z2 z3 z4 z5 z6; obtain ⟨z0, z1, z2, z3, z4, z5, z6⟩ := HS.out _ hq) | (go_at_call 19; refine (HB.out.known _ (HX0.out.trans hq)).mono ?_; rintro e w' ⟨rfl, hx1⟩; replace hq := hq.trans hx1; clear hx1 z0 z1 z2 z3 z4 z5 z6; obtain ⟨z0, z1, z2, z3, z4, z5, z6⟩ := HS.out _ hq))
     go_ret
     exact ⟨rfl, HX0.out.trans hq⟩
    | true =>
     have HB2 := Lib.hid (fun w1 (h : Ext w w1) => h4 ▸ HB.out.book w1 h)
     cases h5 : isSackB s with
     | false =>
      rw [h5] at HSA
      clear h1 h2 h3 h4 h5
      go_wp2_with (first | (go_at_call 13; refine (HB1.out _ (HX0.out.trans hq)).mono ?_; rintro e w' ⟨rfl, hx1⟩; replace hq := hq.trans hx1; clear hx1 z0 z1 z2 z3 z4 z5 z6; obtain ⟨z0, z1, z2, z3, z4, z5, z6⟩ := HS.out _ hq) | (go_at_call 14; refine (HBR.out _ (HX0.out.trans hq)).mono ?_; rintro e w' ⟨rfl, hx1⟩; replace hq := hq.trans hx1; clear hx1 z0 z1 z2 z3 z4 z5 z6; obtain ⟨z0, z1, z2, z3, z4, z5, z6⟩ := HS.out _ hq) | (go_at_call 37; refine (HSH.out _ (HX0.out.trans hq)).mono ?_; rintro e w' ⟨rfl, hx1⟩; replace hq := hq.trans hx1; clear hx1 z0 z1 z2 z3 z4 z5 z6; obtain ⟨z0, z1, z2, z3, z4, z5, z6⟩ := HS.out _ hq) | (go_at_call 15; refine (HB2.out _ (HX0.out.trans hq)).mono ?_; rintro e w' ⟨rfl, hx1⟩; replace hq := hq.trans hx1; clear hx1 z0 z1 z2 z3 z4 z5 z6; obtain ⟨z0, z1, z2, z3, z4, z5, z6⟩ := HS.out _ hq) | (go_at_call 16; refine (HSA.out _ (HX0.out.trans hq)).mono ?_; rintro e w' ⟨rfl, hx1⟩; replace hq := hq.trans hx1; clear hx1 z0 z1 z2 z3 z4 z5 z6; obtain ⟨z0, z1, z2, z3, z4, z5, z6⟩ := HS.out _ hq) | (go_at_call 19; refine (HB.out.known _ (HX0.out.trans hq)).mono ?_; rintro e w' ⟨rfl, hx1⟩; replace hq := hq.trans hx1; clear hx1 z0 z1 z2 z3 z4 z5 z6; obtain ⟨z0, z1, z2, z3, z4, z5, z6⟩ := HS.out _ hq))
      go_ret
      exact ⟨rfl, HX0.out.trans hq⟩
     | true =>
      rw [h5] at HSA
      cases h6 : truthB b s x with
      | false =>
       rw [h6] at HTR
       clear h1 h2 h3 h4 h5 h6
       go_wp2_with (first | (go_at_call 13; refine (HB1.out _ (HX0.out.trans hq)).mono ?_; rintro e w' ⟨rfl, hx1⟩; replace hq := hq.trans hx1; clear hx1 z0 z1 z2 z3 z4 z5 z6; obtain ⟨z0, z1, z2, z3, z4, z5, z6⟩ := HS.out _ hq) | (go_at_call 14; refine (HBR.out _ (HX0.out.trans hq)).mono ?_; rintro e w' ⟨rfl, hx1⟩; replace hq := hq.trans hx1; clear hx1 z0 z1 z2 z3 z4 z5 z6; obtain ⟨z0, z1, z2, z3, z4, z5, z6⟩ := HS.out _ hq) | (go_at_call 37; refine (HSH.out _ (HX0.out.trans hq)).mono ?_; rintro e w' ⟨rfl, hx1⟩; replace hq := hq.trans hx1; clear hx1 z0 z1 z2 z3 z4 z5 z6; obtain ⟨z0, z1, z2, z3, z4, z5, z6⟩ := HS.out _ hq) | (go_at_call 15; refine (HB2.out _ (HX0.out.trans hq)).mono ?_; rintro e w' ⟨rfl, hx1⟩; replace hq := hq.trans hx1; clear hx1 z0 z1 z2 z3 z4 z5 z6; obtain ⟨z0, z1, z2, z3, z4, z5, z6⟩ := HS.out _ hq) | (go_at_call 16; refine (HSA.out _ (HX0.out.trans hq)).mono ?_; rintro e w' ⟨rfl, hx1⟩; replace hq := hq.trans hx1; clear hx1 z0 z1 z2 z3 z4 z5 z6; obtain ⟨z0, z1, z2, z3, z4, z5, z6⟩ := HS.out _ hq) | (go_at_call 39; refine (HTR.out _ (HX0.out.trans hq)).mono ?_; rintro e w' ⟨rfl, hx1⟩; replace hq := hq.trans hx1; clear hx1 z0 z1 z2 z3 z4 z5 z6; obtain ⟨z0, z1, z2, z3, z4, z5, z6⟩ := HS.out _ hq) | (go_at_call 19; refine (HB.out.known _ (HX0.out.trans hq)).mono ?_; rintro e w' ⟨rfl, hx1⟩; replace hq := hq.trans hx1; clear hx1 z0 z1 z2 z3 z4 z5 z6; obtain ⟨z0, z1, z2, z3, z4, z5, z6⟩ := HS.out _ hq))
       go_ret
       exact ⟨rfl, HX0.out.trans hq⟩
      | true =>
       rw [h6] at HTR
       by_cases h8 : m < 0
       ·have t8 : decide (m < 0) = true := by simpa using h8
        clear h1 h2 h3 h4 h5 h6
        go_wp2_with (first | (go_at_call 13; refine (HB1.out _ (HX0.out.trans hq)).mono ?_; rintro e w' ⟨rfl, hx1⟩; replace hq := hq.trans hx1; clear hx1 z0 z1 z2 z3 z4 z5 z6; obtain ⟨z0, z1, z2, z3, z4, z5, z6⟩ := HS.out _ hq) | (go_at_call 14; refine (HBR.out _ (HX0.out.trans hq)).mono ?_; rintro e w' ⟨rfl, hx1⟩; replace hq := hq.trans hx1; clear hx1 z0 z1 z2 z3 z4 z5 z6; obtain ⟨z0, z1, z2, z3, z4, z5, z6⟩ := HS.out _ hq) | (go_at_call 37; refine (HSH.out _ (HX0.out.trans hq)).mono ?_; rintro e w' ⟨rfl, hx1⟩; replace hq := hq.trans hx1; clear hx1 z0 z1 z2 z3 z4 z5 z6; obtain ⟨z0, z1, z2, z3, z4, z5, z6⟩ := HS.out _ hq) | (go_at_call 15; refine (HB2.out _ (HX0.out.trans hq)).mono ?_; rintro e w' ⟨rfl, hx1⟩; replace hq := hq.trans hx1; clear hx1 z0 z1 z2 z3 z4 z5 z6; obtain ⟨z0, z1, z2, z3, z4, z5, z6⟩ := HS.out _ hq) | (go_at_call 16; refine (HSA.out _ (HX0.out.trans hq)).mono ?_; rintro e w' ⟨rfl, hx1⟩; replace hq := hq.trans hx1; clear hx1 z0 z1 z2 z3 z4 z5 z6; obtain ⟨z0, z1, z2, z3, z4, z5, z6⟩ := HS.out _ hq) | (go_at_call 39; refine (HTR.out _ (HX0.out.trans hq)).mono ?_; rintro e w' ⟨rfl, hx1⟩; replace hq := hq.trans hx1; clear hx1 z0 z1 z2 z3 z4 z5 z6; obtain ⟨z0, z1, z2, z3, z4, z5, z6⟩ := HS.out _ hq) | (go_at_call 19; refine (HB.out.known _ (HX0.out.trans hq)).mono ?_; rintro e w' ⟨rfl, hx1⟩; replace hq := hq.trans hx1; clear hx1 z0 z1 z2 z3 z4 z5 z6; obtain ⟨z0, z1, z2, z3, z4, z5, z6⟩ := HS.out _ hq))
        go_ret
        exact ⟨rfl, HX0.out.trans hq⟩
       have t8 : decide (m < 0) = false := by simpa using h8
       by_cases h9 : 4 < m
       ·have t9 : decide (4 < m) = true := by simpa using h9
        clear h1 h2 h3 h4 h5 h6
        go_wp2_with (first | (go_at_call 13; refine (HB1.out _ (HX0.out.trans hq)).mono ?_; rintro e w' ⟨rfl, hx1⟩; replace hq := hq.trans hx1; clear hx1 z0 z1 z2 z3 z4 z5 z6; obtain ⟨z0, z1, z2, z3, z4, z5, z6⟩ := HS.out _ hq) | (go_at_call 14; refine (HBR.out _ (HX0.out.trans hq)).mono ?_; rintro e w' ⟨rfl, hx1⟩; replace hq := hq.trans hx1; clear hx1 z0 z1 z2 z3 z4 z5 z6; obtain ⟨z0, z1, z2, z3, z4, z5, z6⟩ := HS.out _ hq) | (go_at_call 37; refine (HSH.out _ (HX0.out.trans hq)).mono ?_; rintro e w' ⟨rfl, hx1⟩; replace hq := hq.trans hx1; clear hx1 z0 z1 z2 z3 z4 z5 z6; obtain ⟨z0, z1, z2, z3, z4, z5, z6⟩ := HS.out _ hq) | (go_at_call 15; refine (HB2.out _ (HX0.out.trans hq)).mono ?_; rintro e w' ⟨rfl, hx1⟩; replace hq := hq.trans hx1; clear hx1 z0 z1 z2 z3 z4 z5 z6; obtain ⟨z0, z1, z2, z3, z4, z5, z6⟩ := HS.out _ hq) | (go_at_call 16; refine (HSA.out _ (HX0.out.trans hq)).mono ?_; rintro e w' ⟨rfl, hx1⟩; replace hq := hq.trans hx1; clear hx1 z0 z1 z2 z3 z4 z5 z6; obtain ⟨z0, z1, z2, z3, z4, z5, z6⟩ := HS.out _ hq) | (go_at_call 39; refine (HTR.out _ (HX0.out.trans hq)).mono ?_; rintro e w' ⟨rfl, hx1⟩; replace hq := hq.trans hx1; clear hx1 z0 z1 z2 z3 z4 z5 z6; obtain ⟨z0, z1, z2, z3, z4, z5, z6⟩ := HS.out _ hq) | (go_at_call 19; refine (HB.out.known _ (HX0.out.trans hq)).mono ?_; rintro e w' ⟨rfl, hx1⟩; replace hq := hq.trans hx1; clear hx1 z0 z1 z2 z3 z4 z5 z6; obtain ⟨z0, z1, z2, z3, z4, z5, z6⟩ := HS.out _ hq))
        go_ret
        exact ⟨rfl, HX0.out.trans hq⟩
       have t9 : decide (4 < m) = false := by simpa using h9
       by_cases h10 : 6 < s.tests.length + s.shells.length
       ·have t10 : decide ((6 : Int) < (s.tests.length : Int) + (s.shells.length : Int)) = true := by simp; omega
        have hsm := (sackB_of h5).t
        have hsn := (sackB_of h5).n2
        clear h1 h2 h3 h4 h5 h6
        go_wp2_with (first | (go_at_call 13; refine (HB1.out _ (HX0.out.trans hq)).mono ?_; rintro e w' ⟨rfl, hx1⟩; replace hq := hq.trans hx1; clear hx1 z0 z1 z2 z3 z4 z5 z6; obtain ⟨z0, z1, z2, z3, z4, z5, z6⟩ := HS.out _ hq) | (go_at_call 14; refine (HBR.out _ (HX0.out.trans hq)).mono ?_; rintro e w' ⟨rfl, hx1⟩; replace hq := hq.trans hx1; clear hx1 z0 z1 z2 z3 z4 z5 z6; obtain ⟨z0, z1, z2, z3, z4, z5, z6⟩ := HS.out _ hq) | (go_at_call 37; refine (HSH.out _ (HX0.out.trans hq)).mono ?_; rintro e w' ⟨rfl, hx1⟩; replace hq := hq.trans hx1; clear hx1 z0 z1 z2 z3 z4 z5 z6; obtain ⟨z0, z1, z2, z3, z4, z5, z6⟩ := HS.out _ hq) | (go_at_call 15; refine (HB2.out _ (HX0.out.trans hq)).mono ?_; rintro e w' ⟨rfl, hx1⟩; replace hq := hq.trans hx1; clear hx1 z0 z1 z2 z3 z4 z5 z6; obtain ⟨z0, z1, z2, z3, z4, z5, z6⟩ := HS.out _ hq) | (go_at_call 16; refine (HSA.out _ (HX0.out.trans hq)).mono ?_; rintro e w' ⟨rfl, hx1⟩; replace hq := hq.trans hx1; clear hx1 z0 z1 z2 z3 z4 z5 z6; obtain ⟨z0, z1, z2, z3, z4, z5, z6⟩ := HS.out _ hq) | (go_at_call 39; refine (HTR.out _ (HX0.out.trans hq)).mono ?_; rintro e w' ⟨rfl, hx1⟩; replace hq := hq.trans hx1; clear hx1 z0 z1 z2 z3 z4 z5 z6; obtain ⟨z0, z1, z2, z3, z4, z5, z6⟩ := HS.out _ hq) | (go_at_call 19; refine (HB.out.known _ (HX0.out.trans hq)).mono ?_; rintro e w' ⟨rfl, hx1⟩; replace hq := hq.trans hx1; clear hx1 z0 z1 z2 z3 z4 z5 z6; obtain ⟨z0, z1, z2, z3, z4, z5, z6⟩ := HS.out _ hq))
        go_ret
        exact ⟨rfl, HX0.out.trans hq⟩
       have t10 : decide ((6 : Int) < (s.tests.length : Int) + (s.shells.length : Int)) = false := by simp; omega
       have hsm := (sackB_of h5).t
       have hsn := (sackB_of h5).n2
       have HF := Lib.hid (fun w1 (h : Ext w w1) => (show Calls Tryz.prog 38 _ w1 (fun e w' => e = .returned (.tuple #[.bool (fitsB b s x), .int .i64 0]) ∧ Ext w1 w') from (HFI.out w1 h).mono (fun e w' q => by unfold FitsRes at q; rw [show fitsArg b s x = true by unfold fitsArg; simp [h4, h5, h6]] at q; exact q)))
       cases h7 : fitsB b s x with
       | false =>
        rw [h7] at HF
        clear h1 h2 h3 h4 h5 h6 h7
        go_wp2_with (first | (go_at_call 13; refine (HB1.out _ (HX0.out.trans hq)).mono ?_; rintro e w' ⟨rfl, hx1⟩; replace hq := hq.trans hx1; clear hx1 z0 z1 z2 z3 z4 z5 z6; obtain ⟨z0, z1, z2, z3, z4, z5, z6⟩ := HS.out _ hq) | (go_at_call 14; refine (HBR.out _ (HX0.out.trans hq)).mono ?_; rintro e w' ⟨rfl, hx1⟩; replace hq := hq.trans hx1; clear hx1 z0 z1 z2 z3 z4 z5 z6; obtain ⟨z0, z1, z2, z3, z4, z5, z6⟩ := HS.out _ hq) | (go_at_call 37; refine (HSH.out _ (HX0.out.trans hq)).mono ?_; rintro e w' ⟨rfl, hx1⟩; replace hq := hq.trans hx1; clear hx1 z0 z1 z2 z3 z4 z5 z6; obtain ⟨z0, z1, z2, z3, z4, z5, z6⟩ := HS.out _ hq) | (go_at_call 15; refine (HB2.out _ (HX0.out.trans hq)).mono ?_; rintro e w' ⟨rfl, hx1⟩; replace hq := hq.trans hx1; clear hx1 z0 z1 z2 z3 z4 z5 z6; obtain ⟨z0, z1, z2, z3, z4, z5, z6⟩ := HS.out _ hq) | (go_at_call 16; refine (HSA.out _ (HX0.out.trans hq)).mono ?_; rintro e w' ⟨rfl, hx1⟩; replace hq := hq.trans hx1; clear hx1 z0 z1 z2 z3 z4 z5 z6; obtain ⟨z0, z1, z2, z3, z4, z5, z6⟩ := HS.out _ hq) | (go_at_call 39; refine (HTR.out _ (HX0.out.trans hq)).mono ?_; rintro e w' ⟨rfl, hx1⟩; replace hq := hq.trans hx1; clear hx1 z0 z1 z2 z3 z4 z5 z6; obtain ⟨z0, z1, z2, z3, z4, z5, z6⟩ := HS.out _ hq) | (go_at_call 38; refine (HF.out _ (HX0.out.trans hq)).mono ?_; rintro e w' ⟨rfl, hx1⟩; replace hq := hq.trans hx1; clear hx1 z0 z1 z2 z3 z4 z5 z6; obtain ⟨z0, z1, z2, z3, z4, z5, z6⟩ := HS.out _ hq) | (go_at_call 19; refine (HB.out.known _ (HX0.out.trans hq)).mono ?_; rintro e w' ⟨rfl, hx1⟩; replace hq := hq.trans hx1; clear hx1 z0 z1 z2 z3 z4 z5 z6; obtain ⟨z0, z1, z2, z3, z4, z5, z6⟩ := HS.out _ hq))
        go_ret
        exact ⟨rfl, HX0.out.trans hq⟩
       | true =>
        have HBB := Lib.hid (bookB_of h4)
        have HSB := Lib.hid (sackB_of h5)
        have HTL := Lib.hid (show x.org.length = s.shells.length by unfold truthB at h6; rw [Bool.and_eq_true, Bool.and_eq_true, decide_eq_true_eq, decide_eq_true_eq] at h6; exact h6.2)
        have HFP := Lib.hid ((fitsB_iff HBB.out HSB.out HTL.out).1 h7)
        rw [h7] at HF
        have HM4 := Lib.hid (show inB m 0 4 = true by rw [inB_iff]; omega)
        have HTS := Lib.hid (fun (ts : List (Int × Bool)) (k : Nat) (hI : TInv b s x m ts k) (sv : Value) w1 (h : Ext w w1) (hsv : SackAt w1 sv (tsack s ts)) => Tests_tv (m := m) (HBW.out w1 h) hsv (ask_ok h4 hI.sk HM4.out (poss_of HBB.out (sackB_of hI.sk) hI.fit)))
        have HCL := Lib.hid (fun (ts : List (Int × Bool)) (k : Nat) (hI : TInv b s x m ts k) (sv : Value) w1 (h : Ext w w1) (hsv : SackAt w1 sv (tsack s ts)) => Closed_ok (HBW.out w1 h) hsv (ask_ok h4 hI.sk rfl (poss_of HBB.out (sackB_of hI.sk) hI.fit)))
        have HI0 := Lib.hid (TInv.zero (m := m) h5 HFP.out)
        have HRO := Lib.hid (fun (o : Org) (n : Nat) (hn : n ≤ 1000) w1 (h : Ext w w1) => rorigin_any _ b o n w1 (HBW.out w1 h) HBB.out.y1 HBB.out.y2 hn)
        have HRC := Lib.hid (fun (r y : Nat) (hr : r < b.rivers.length) (hy : (y : Int) < b.years) w1 (h : Ext w w1) => rclosed_any _ b r y w1 (HBW.out w1 h) HBB.out hr hy)
        clear h1 h2 h3 h4 h5 h6 h7
        go_upto_region 10 with (first | (go_at_call 13; refine (HB1.out _ (HX0.out.trans hq)).mono ?_; rintro e w' ⟨rfl, hx1⟩; replace hq := hq.trans hx1; clear hx1 z0 z1 z2 z3 z4 z5 z6; obtain ⟨z0, z1, z2, z3, z4, z5, z6⟩ := HS.out _ hq) | (go_at_call 14; refine (HBR.out _ (HX0.out.trans hq)).mono ?_; rintro e w' ⟨rfl, hx1⟩; replace hq := hq.trans hx1; clear hx1 z0 z1 z2 z3 z4 z5 z6; obtain ⟨z0, z1, z2, z3, z4, z5, z6⟩ := HS.out _ hq) | (go_at_call 37; refine (HSH.out _ (HX0.out.trans hq)).mono ?_; rintro e w' ⟨rfl, hx1⟩; replace hq := hq.trans hx1; clear hx1 z0 z1 z2 z3 z4 z5 z6; obtain ⟨z0, z1, z2, z3, z4, z5, z6⟩ := HS.out _ hq) | (go_at_call 15; refine (HB2.out _ (HX0.out.trans hq)).mono ?_; rintro e w' ⟨rfl, hx1⟩; replace hq := hq.trans hx1; clear hx1 z0 z1 z2 z3 z4 z5 z6; obtain ⟨z0, z1, z2, z3, z4, z5, z6⟩ := HS.out _ hq) | (go_at_call 16; refine (HSA.out _ (HX0.out.trans hq)).mono ?_; rintro e w' ⟨rfl, hx1⟩; replace hq := hq.trans hx1; clear hx1 z0 z1 z2 z3 z4 z5 z6; obtain ⟨z0, z1, z2, z3, z4, z5, z6⟩ := HS.out _ hq) | (go_at_call 39; refine (HTR.out _ (HX0.out.trans hq)).mono ?_; rintro e w' ⟨rfl, hx1⟩; replace hq := hq.trans hx1; clear hx1 z0 z1 z2 z3 z4 z5 z6; obtain ⟨z0, z1, z2, z3, z4, z5, z6⟩ := HS.out _ hq) | (go_at_call 38; refine (HF.out _ (HX0.out.trans hq)).mono ?_; rintro e w' ⟨rfl, hx1⟩; replace hq := hq.trans hx1; clear hx1 z0 z1 z2 z3 z4 z5 z6; obtain ⟨z0, z1, z2, z3, z4, z5, z6⟩ := HS.out _ hq))
        have HQ0 := Lib.hid hq
        clear hq
        go_loopw [12, 11] (fun i c wr => ∃ k n : Nat, k ≤ x.org.length ∧ i = .int .i64 k ∧ c = .int .i64 n ∧ n ≤ k ∧ Hid (n = (x.org.take k).countP (closedB b)) ∧ Ext W0 wr) (fun i _ _ => x.org.length - (intOf i).toNat)
        case atStart => exact ⟨0, 0, Nat.zero_le _, rfl, rfl, Nat.le_refl _, by simp [Hid], HQ0.out⟩
        case round =>
         clear z0 z1 z2 z3 z4 z5 z6
         obtain ⟨k, cn, hk, rfl, rfl, hcn, hcnt, hx⟩ := hrel
         obtain ⟨z0, z1, z2, z3, z4, z5, z6⟩ := HS.out _ hx
         have hxl4 : x.org.length ≤ 4 := by have := HTL.out; omega
         by_cases hks : k < x.org.length
         ·as_aux_lemma =>
           obtain ⟨ob, of, og, rfl, ho, c0, c1⟩ := O3.out k hks
           have hks2 : k < s.shells.length := by have := HTL.out; omega
           obtain ⟨sb, sf, rv, sh, rfl, hsh, c3, c4, hri⟩ := S3.out k hks2
           have hshm := List.mem_of_getElem? hsh.out
           have hsa : shellAt s k = sh := by unfold shellAt; rw [List.getD_eq_getElem?_getD, hsh.out]; rfl
           have hok := HFP.out.2.2 k og ho.out
           unfold OkAt at hok
           rw [hsa] at hok
           have HSB1 := HSB.out.shell sh hshm
           obtain ⟨r, y, rfl, hrl, hyl, hyn⟩ := originsOf_mem HBB.out HSB1.n1 hok.1
           have hn5 := HSB1.n2
           have hn1 := HSB1.n1
           have HCN2 := Lib.hid (countP_succ (b := b) ho.out)
           have HOG := Lib.hid (show originB b ((r : Int), (y : Int)) sh.rings.length = true by rw [originB_eq hn1, isOrg_iff HBB.out hn1]; exact hok.1)
           have HOGC := Lib.hid (fun w1 (h : Ext w w1) => HOG.out ▸ HRO.out ((r : Int), (y : Int)) sh.rings.length (by omega) w1 h)
           have HCC := Lib.hid (fun w1 (h : Ext w w1) => HRC.out r y hrl hyl w1 h)
           obtain ⟨ia, ic, rfl, _, _, _⟩ := hri.open
           have x2 : decide ((k : Int) < (x.org.length : Int)) = true := by simpa using hks
           have i1 : (0 : Int) ≤ (k : Int) := by omega
           have i2 : (k : Int) < (x.org.length : Int) := by omega
           have i3 : (k : Int) < (s.shells.length : Int) := by omega
           simp only at c0 c1
           have HXR := Lib.hid (HX0.out.trans hx)
           have HF0 := Lib.hid (fun W (h : Ext wr W) => (⟨HS.out W (hx.trans h), (HXR.out.trans h).cell c0, (HXR.out.trans h).cell c1, (HXR.out.trans h).cell c3⟩ : _ ∧ _ ∧ _ ∧ _))
           clear hri c0 c1 c3 c4 hok hshm hsa HSB1
           go_upto_region 12 with fail
           refine region_reads (C := fun W => Ext wr W) (by kernel_rfl) (by kernel_rfl) ((Ext.refl wr).drew) ?_
           repeat (first | go_big_quiet_skip | (go_big_quiet_want; go_big_quiet_op; first | go_big_quiet_on | (refine ⟨_, fun W hW => rfl, ?_⟩; go_big_quiet_on)) | (go_big_quiet_want; refine ⟨?_, fun W hW => ?_, ?_⟩; rotate_left; (· (obtain ⟨⟨z0, z1, z2, z3, z4, z5, z6⟩, y0, y1, y2⟩ := HF0.out W hW); go_simp; (first | with_reducible rfl | (go_at_call 41; refine (HOGC.out W (HXR.out.trans hW)).mono ?_; rintro e w' ⟨rfl, hx1⟩; constructor; with_reducible rfl; exact hW.trans hx1))); (try simp only [Act.put, yA, yB, yC]); go_big_quiet_on))
           refine wpQuiet_nil ?_
           intro wq hq
           have HQ1 := Lib.hid hq
           have HF1 := Lib.hid (fun W (h : Ext wq W) => HF0.out W (hq.trans h))
           clear hq
           obtain ⟨wr0, rfl⟩ : ∃ wr0 : World, wr0 = wr := ⟨_, rfl⟩
           obtain ⟨wr, rfl⟩ : ∃ wr : World, wr = wq := ⟨_, rfl⟩
           cases hcb : closedB b ((r : Int), (y : Int)) with
           | true =>
            rw [hcb] at HCC
            have hcn3 : (x.org.take (k + 1)).countP (closedB b) = cn + 1 := by rw [HCN2.out, hcb, ← hcnt.out]; rfl
            clear hcb
            go_upto_region 14 with fail
            refine region_reads (C := fun W => Ext wr W) (by kernel_rfl) (by kernel_rfl) ((Ext.refl wr).drew) ?_
            repeat (first | go_big_quiet_skip | (go_big_quiet_want; go_big_quiet_op; first | go_big_quiet_on | (refine ⟨_, fun W hW => rfl, ?_⟩; go_big_quiet_on)) | (go_big_quiet_want; refine ⟨?_, fun W hW => ?_, ?_⟩; rotate_left; (· (obtain ⟨⟨z0, z1, z2, z3, z4, z5, z6⟩, y0, y1, y2⟩ := HF1.out W hW); go_simp; (first | with_reducible rfl | (go_at_call 42; refine (HCC.out W (HXR.out.trans (HQ1.out.trans hW))).mono ?_; rintro e w' ⟨rfl, hx1⟩; constructor; with_reducible rfl; exact hW.trans hx1))); (try simp only [Act.put, yA, yB, yC]); go_big_quiet_on))
            refine wpQuiet_nil ?_
            intro wq hq
            go_wp2
            go_roundw
            case rel => exact ⟨k + 1, cn + 1, by omega, by go_num, by go_num, by omega, hcn3.symm, hx.trans (HQ1.out.trans hq)⟩
            case measure => simp [intOf]; omega
           | false =>
            rw [hcb] at HCC
            have hcn3 : (x.org.take (k + 1)).countP (closedB b) = cn + 0 := by rw [HCN2.out, hcb, ← hcnt.out]; rfl
            clear hcb
            go_upto_region 14 with fail
            refine region_reads (C := fun W => Ext wr W) (by kernel_rfl) (by kernel_rfl) ((Ext.refl wr).drew) ?_
            repeat (first | go_big_quiet_skip | (go_big_quiet_want; go_big_quiet_op; first | go_big_quiet_on | (refine ⟨_, fun W hW => rfl, ?_⟩; go_big_quiet_on)) | (go_big_quiet_want; refine ⟨?_, fun W hW => ?_, ?_⟩; rotate_left; (· (obtain ⟨⟨z0, z1, z2, z3, z4, z5, z6⟩, y0, y1, y2⟩ := HF1.out W hW); go_simp; (first | with_reducible rfl | (go_at_call 42; refine (HCC.out W (HXR.out.trans (HQ1.out.trans hW))).mono ?_; rintro e w' ⟨rfl, hx1⟩; constructor; with_reducible rfl; exact hW.trans hx1))); (try simp only [Act.put, yA, yB, yC]); go_big_quiet_on))
            refine wpQuiet_nil ?_
            intro wq hq
            go_wp2
            go_roundw
            case rel => exact ⟨k + 1, cn + 0, by omega, by go_num, by go_num, by omega, hcn3.symm, hx.trans (HQ1.out.trans hq)⟩
            case measure => simp [intOf]; omega
         ·have x2 : decide ((k : Int) < (x.org.length : Int)) = false := by simp; omega
          have hcc : (cn : Int) = (closedN b x.org : Nat) := by
           have h1 := hcnt.out
           rw [List.take_of_length_le (by omega)] at h1
           rw [h1]; rfl
          have HCC := Lib.hid hcc
          clear hcc hcnt
          have hsv : SackAt wr (.agg #[.slice sa s.shells.length sc, .slice ta s.tests.length tc]) (tsack s s.tests) := ⟨_, _, rfl, HSHW.out _ (HX0.out.trans hx), HTEW.out _ (HX0.out.trans hx)⟩
          have HTS0 := Lib.hid (HTS.out s.tests 0 HI0.out _ wr (HX0.out.trans hx) hsv)
          have HXR := Lib.hid (HX0.out.trans hx)
          clear hsv
          go_upto_region 17 with (go_at_call 25; refine HTS0.out.mono ?_; rintro e w1 ⟨t, n, f, rfl, hx1, htv⟩; have HTV := Lib.hid htv; clear htv)
          obtain ⟨n0, n4⟩ := TV.num HBB.out HI0.out HTV.out
          have HX1 := Lib.hid (HXR.out.trans hx1)
          have HC1 := Lib.hid (HS.out _ (hx.trans hx1))
          clear hx1 z0 z1 z2 z3 z4 z5 z6 hx HTS0
          go_wp2
          have HNK := Lib.hid (show f = 0 → n + (0 : Nat) ≤ s.shells.length ∧ n < n + 1 from fun hf => by
           rcases HTV.out with ⟨h, _⟩ | ⟨_, hk, he⟩
           ·omega
           ·have := best_first HBB.out HSB.out hk
            have e : (bestP m (patternsOf b s)).2 = n := congrArg Prod.snd he
            omega)
          have HRT := Lib.hid (HTEW.out _ HX1.out)
          go_loopw [13, 14, 15, 16] (fun tv nv fv lv wr => ∃ (k : Nat) (ts : List (Int × Bool)) (va : Option Addr) (vc : Nat) (t n f l : Int), tv = .int .i64 t ∧ nv = .int .i64 n ∧ fv = .int .i64 f ∧ lv = .int .i64 l ∧ Hid (TInv b s x m ts k) ∧ Hid (TV b s m ts t n f) ∧ Hid (f = 0 → n + k ≤ s.shells.length ∧ n < l) ∧ 0 ≤ n ∧ n ≤ 4 ∧ Ext w wr ∧ ts.length ≤ vc ∧ vc ≤ 9223372036854775807 ∧ ts.length ≤ 6 ∧
           Hid (wr.cell? ⟨w.heap.size, 0, none⟩ = some (.int .i64 b.years) ∧ wr.cell? ⟨w.heap.size, 1, none⟩ = some (.slice ra b.rivers.length rc) ∧ wr.cell? ⟨w.heap.size + 1, 0, none⟩ = some (.slice sa s.shells.length sc) ∧ wr.cell? ⟨w.heap.size + 1, 1, none⟩ = some (.slice va ts.length vc) ∧ wr.cell? ⟨w.heap.size + 2, 0, none⟩ = some (.slice wa x.wea.length wc) ∧ wr.cell? ⟨w.heap.size + 2, 1, none⟩ = some (.slice oa x.org.length oc) ∧ wr.frozen? ⟨w.heap.size + 1, 1, none⟩ = false) ∧ Hid (RowOf testC wr (.slice va ts.length vc) ts)) (fun _ n _ _ _ => (intOf n).toNat)
          case atStart => exact ⟨0, s.tests, ta, tc, t, n, f, n + 1, rfl, rfl, rfl, rfl, HI0.out, HTV.out, HNK.out, n0, n4, HX1.out, t1', t2', hsm, HC1.out, HRT.out⟩
          case round =>
           clear HTV n0 n4 HC1 HNK HRT HX1 x2 hks
           obtain ⟨k, ts, va, vc, t, n, f, l, rfl, rfl, rfl, rfl, hI, htv, hnk, n0, n4, hxw, v1, v2, v6, hce, hrt⟩ := hrel
           obtain ⟨z0, z1, z2, z3, z4, z5, z6⟩ := hce.out
           have HSV := Lib.hid (show SackAt wr (.agg #[.slice sa s.shells.length sc, .slice va ts.length vc]) (tsack s ts) from ⟨_, _, rfl, HSHW.out _ hxw, hrt.out⟩)
           rcases htv.out with ⟨rfl, hkn, rfl, rfl⟩ | ⟨rfl, hkn, hbe⟩
           ·have HKN := Lib.hid hkn
            clear hkn hnk hce
            have HCLS := Lib.hid (HCL.out ts k hI.out _ wr hxw HSV.out)
            have hfo := closed_of HBB.out (sackB_of hI.out.sk) hI.out.fit
            have hfk := closed_known (least := m) HBB.out (sackB_of hI.out.sk) (poss_of HBB.out (sackB_of hI.out.sk) hI.out.fit) HKN.out
            generalize closedOf b (tsack s ts) = cl at *
            obtain ⟨c1, c2⟩ := cl
            simp only at hfo hfk
            rw [← HCC.out] at hfo
            obtain ⟨f1, f2⟩ := hfo
            have q1 : decide ((cn : Int) < c1) = false := by simp; omega
            have q2 : decide (c2 < (cn : Int)) = false := by simp; omega
            by_cases hm1 : m ≤ c1
            ·have q3 : decide (m ≤ c1) = true := by simpa using hm1
             clear hfk
             go_wp2_with (first | (go_at_call 33; refine HCLS.out.mono ?_; rintro e w2 ⟨rfl, hx2⟩) | (go_at_call 19; refine (HB.out.known _ (hxw.trans (hx2.alloc _))).mono ?_; rintro e w3 ⟨rfl, hx3⟩))
             go_ret
             exact ⟨rfl, (hxw.trans (hx2.alloc _)).trans hx3⟩
            ·have q3 : decide (m ≤ c1) = false := by simpa using hm1
             have q4 : decide (c2 < m) = true := by simp; omega
             clear hfk
             go_wp2_with (first | (go_at_call 33; refine HCLS.out.mono ?_; rintro e w2 ⟨rfl, hx2⟩) | (go_at_call 19; refine (HB.out.known _ (hxw.trans (hx2.alloc _))).mono ?_; rintro e w3 ⟨rfl, hx3⟩))
             go_ret
             exact ⟨rfl, (hxw.trans (hx2.alloc _)).trans hx3⟩
           ·as_aux_lemma =>
             obtain ⟨hn1, hn2⟩ := hnk.out rfl
             have hst := TInv.step HBB.out hI.out hkn (by omega) (by have e : (bestP m (patternsOf b (tsack s ts))).2 = n := congrArg Prod.snd hbe; omega)
             obtain ⟨tn, nn, og, hbe2, htl, hn3, hn4, hts6, ho, hI2, hnx⟩ := hst
             rw [hbe] at hbe2
             injection hbe2 with e1 e2
             subst e1 e2
             have HI2 := Lib.hid hI2
             have HNX := Lib.hid hnx
             have HHO := Lib.hid ho
             have hok := (HFP.out.2.2 tn og ho).1
             have hn1' := (HSB.out.shell _ (shell_mem htl)).n1
             obtain ⟨r, y, rfl, hrl, hyl, hyn⟩ := originsOf_mem HBB.out hn1' hok
             obtain ⟨ob, of, xo, rfl, hxo, c0, c1⟩ := O3.out tn (List.getElem?_eq_some_iff.1 ho).1
             have e3 := hxo.out
             rw [ho] at e3
             cases e3
             have i1 : (0 : Int) ≤ (tn : Int) := by omega
             have i2 : (tn : Int) < (x.org.length : Int) := by have := (List.getElem?_eq_some_iff.1 ho).1; omega
             have q1 : decide ((nn : Int) < 1) = false := by simp; omega
             have q2 : decide (l ≤ (nn : Int)) = false := by simp; omega
             have q3 : decide ((s.shells.length : Int) < (nn : Int)) = false := by simp; omega
             have q4 : decide ((6 : Int) ≤ (ts.length : Int)) = false := by simp; omega
             have HNU := Lib.hid (show Calls Tryz.prog 18 _ wr (fun e w' => e = .returned (.bool true) ∧ Ext wr w') from (rnumber_any _ (tsack s ts) (tn : Int) wr HSV.out).mono (fun e w' q => by rw [show numberB (tsack s ts) (tn : Int) = true by unfold numberB; rw [inB_iff]; have : (tsack s ts).shells.length = s.shells.length := rfl; omega] at q; exact q))
             have HSZ := Lib.hid (show 0 + ts.length ≤ maxLen ∧ (0 + ts.length) * 16 ≤ 140737488355328 ∧ ts.length + 1 ≤ maxLen ∧ (ts.length + 1) * 16 ≤ 140737488355328 by unfold maxLen; omega)
             have HLT := Lib.hid (lt_of_cell z3)
             have HC0 := Lib.hid hce.out
             have HRT := Lib.hid hrt.out
             have HCC := Lib.hid (fun w1 (h : Ext w w1) => HRC.out r y hrl hyl w1 h)
             have HBN := Lib.hid (And.intro hn3 (And.intro hn4 hts6))
             simp only at c0 c1
             have HOC := Lib.hid (fun W (h : Ext w W) => And.intro (h.cell c0) (h.cell c1))
             clear hnx ho hok hn1' hxo c0 c1 hI2 hnk hn1 hbe htv hkn hce hrt hI
             generalize closedB b ((r : Int), (y : Int)) = cb at *
             have HCX0 := Lib.hid (fun W (h : Ext wr W) => (⟨h.cell HC0.out.1, h.cell HC0.out.2.1, h.cell HC0.out.2.2.1, h.cell HC0.out.2.2.2.1, h.cell HC0.out.2.2.2.2.1, h.cell HC0.out.2.2.2.2.2.1, (h.frozen HLT.out).trans HC0.out.2.2.2.2.2.2⟩ : _ ∧ _ ∧ _ ∧ _ ∧ _ ∧ _ ∧ _))
             go_upto_region 22 with (go_at_call 18; refine HNU.out.mono ?_; rintro e wn ⟨rfl, hxn⟩; clear z0 z1 z2 z3 z4 z5 z6; obtain ⟨z0, z1, z2, z3, z4, z5, z6⟩ := HCX0.out _ hxn)
             obtain ⟨wr0, rfl⟩ : ∃ wr0 : World, wr0 = wr := ⟨_, rfl⟩
             obtain ⟨wr, rfl⟩ : ∃ wr : World, wr = wn := ⟨_, rfl⟩
             have HCX := Lib.hid (fun W (h : Ext wr W) => HCX0.out W (hxn.trans h))
             replace hxw := hxw.trans hxn
             have hrow : RowAt wr.drew (.slice va ts.length vc) ts.length (ts.flatMap testC) := RowAt.ext HRT.out (hxn.trans (Ext.refl wr).drew)
             have HLT2 := Lib.hid (Nat.lt_of_lt_of_le HLT.out hxn.size)
             clear z0 z1 z2 z3 z4 z5 z6 HSV hxn HC0 HLT HNU
             have HSS := Lib.hid (fun W (h : Ext wr W) => (⟨(HCX.out W h).1, (HCX.out W h).2.1, (HCX.out W h).2.2.2.2.2.1, (HCX.out W h).2.2.2.1, (HOC.out W (hxw.trans h)).1, (HOC.out W (hxw.trans h)).2, (HCX.out W h).2.2.2.2.2.2⟩ : W.cell? ⟨w.heap.size, 0, none⟩ = some (.int .i64 b.years) ∧ W.cell? ⟨w.heap.size, 1, none⟩ = some (.slice ra b.rivers.length rc) ∧ W.cell? ⟨w.heap.size + 2, 1, none⟩ = some (.slice (some ⟨ob, of, none⟩) x.org.length oc) ∧ W.cell? ⟨w.heap.size + 1, 1, none⟩ = some (.slice va ts.length vc) ∧ W.cell? ⟨ob, of + tn * 2, none⟩ = some (.int .i64 (r : Int)) ∧ W.cell? ⟨ob, of + tn * 2 + 1, none⟩ = some (.int .i64 (y : Int)) ∧ W.frozen? ⟨w.heap.size + 1, 1, none⟩ = false))
             refine wp_region_noPanic ?_
             refine wp_region_any (by kernel_rfl) (wpAny_of_till (z := 15) (S := (fun w' => w'.cell? ⟨w.heap.size, 0, none⟩ = some (.int .i64 b.years) ∧ w'.cell? ⟨w.heap.size, 1, none⟩ = some (.slice ra b.rivers.length rc) ∧ w'.cell? ⟨w.heap.size + 2, 1, none⟩ = some (.slice (some ⟨ob, of, none⟩) x.org.length oc) ∧ w'.cell? ⟨w.heap.size + 1, 1, none⟩ = some (.slice va ts.length vc) ∧ w'.cell? ⟨ob, of + tn * 2, none⟩ = some (.int .i64 (r : Int)) ∧ w'.cell? ⟨ob, of + tn * 2 + 1, none⟩ = some (.int .i64 (y : Int)) ∧ w'.frozen? ⟨w.heap.size + 1, 1, none⟩ = false)) _ _ _ _ ?_)
             change wpTill _ _ _ _ _ _ _ _ _ wr.drew
             have hS0 := HSS.out _ (Ext.refl wr).drew
             refine till_at (i := 0) (d := some 150) (v := ?_) (by kernel_rfl) (by kernel_rfl) (by kernel_rfl) (by kernel_rfl) (by kernel_rfl) (fun _ _ _ h => h) (fun o ho => ?_) hS0 ?_
             rotate_left
             ·simp only [zA, zB, zD] at ho
              subst ho
              refine Or.inl ⟨by rfl, fun w' hSw => ?_⟩
              obtain ⟨hSw0, hSw1, hSw2, hSw3, hSw4, hSw5, hSw6⟩ := hSw
              go_simp
              try with_reducible rfl
             try simp only [Act.put, yA, yB, yC]
             refine till_at (i := 1) (d := some 151) (v := ?_) (by kernel_rfl) (by kernel_rfl) (by kernel_rfl) (by kernel_rfl) (by kernel_rfl) (fun _ _ _ h => h) (fun o ho => ?_) hS0 ?_
             rotate_left
             ·simp only [zA, zB, zC, zD] at ho
              subst ho
              refine Or.inl ⟨by rfl, fun w' hSw => ?_⟩
              obtain ⟨hSw0, hSw1, hSw2, hSw3, hSw4, hSw5, hSw6⟩ := hSw
              go_simp
              try with_reducible rfl
             try simp only [Act.put, yA, yB, yC]
             refine till_at (i := 3) (d := some 153) (v := ?_) (by kernel_rfl) (by kernel_rfl) (by kernel_rfl) (by kernel_rfl) (by kernel_rfl) (fun _ _ _ h => h) (fun o ho => ?_) hS0 ?_
             rotate_left
             ·simp only [zA, zB, zC, zD] at ho
              subst ho
              refine Or.inl ⟨by rfl, fun w' hSw => ?_⟩
              obtain ⟨hSw0, hSw1, hSw2, hSw3, hSw4, hSw5, hSw6⟩ := hSw
              go_simp
              try with_reducible rfl
             try simp only [Act.put, yA, yB, yC]
             refine till_at (i := 4) (d := some 154) (v := ?_) (by kernel_rfl) (by kernel_rfl) (by kernel_rfl) (by kernel_rfl) (by kernel_rfl) (fun _ _ _ h => h) (fun o ho => ?_) hS0 ?_
             rotate_left
             ·simp only [zA, zB, zC, zD] at ho
              subst ho
              refine Or.inl ⟨by rfl, fun w' hSw => ?_⟩
              obtain ⟨hSw0, hSw1, hSw2, hSw3, hSw4, hSw5, hSw6⟩ := hSw
              go_simp
              try with_reducible rfl
             try simp only [Act.put, yA, yB, yC]
             refine till_at (i := 5) (d := some 155) (v := ?_) (by kernel_rfl) (by kernel_rfl) (by kernel_rfl) (by kernel_rfl) (by kernel_rfl) (fun _ _ _ h => h) (fun o ho => ?_) hS0 ?_
             rotate_left
             ·simp only [zA, zB, zC, zD] at ho
              subst ho
              refine Or.inl ⟨by rfl, fun w' hSw => ?_⟩
              obtain ⟨hSw0, hSw1, hSw2, hSw3, hSw4, hSw5, hSw6⟩ := hSw
              go_simp
              try with_reducible rfl
             try simp only [Act.put, yA, yB, yC]
             refine till_at (i := 6) (d := some 156) (v := ?_) (by kernel_rfl) (by kernel_rfl) (by kernel_rfl) (by kernel_rfl) (by kernel_rfl) (fun _ _ _ h => h) (fun o ho => ?_) hS0 ?_
             rotate_left
             ·simp only [zA, zB, zC, zD] at ho
              subst ho
              refine Or.inl ⟨by rfl, fun w' hSw => ?_⟩
              obtain ⟨hSw0, hSw1, hSw2, hSw3, hSw4, hSw5, hSw6⟩ := hSw
              go_simp
              try with_reducible rfl
             try simp only [Act.put, yA, yB, yC]
             refine till_at (i := 7) (d := some 157) (v := ?_) (by kernel_rfl) (by kernel_rfl) (by kernel_rfl) (by kernel_rfl) (by kernel_rfl) (fun _ _ _ h => h) (fun o ho => ?_) hS0 ?_
             rotate_left
             ·simp only [zA, zB, zC, zD] at ho
              subst ho
              refine Or.inl ⟨by rfl, fun w' hSw => ?_⟩
              obtain ⟨hSw0, hSw1, hSw2, hSw3, hSw4, hSw5, hSw6⟩ := hSw
              go_simp
              try with_reducible rfl
             try simp only [Act.put, yA, yB, yC]
             refine till_at (i := 8) (d := some 158) (v := ?_) (by kernel_rfl) (by kernel_rfl) (by kernel_rfl) (by kernel_rfl) (by kernel_rfl) (fun _ _ _ h => h) (fun o ho => ?_) hS0 ?_
             rotate_left
             ·simp only [zA, zB, zC, zD] at ho
              subst ho
              refine Or.inl ⟨by rfl, fun w' hSw => ?_⟩
              obtain ⟨hSw0, hSw1, hSw2, hSw3, hSw4, hSw5, hSw6⟩ := hSw
              go_simp
              try with_reducible rfl
             try simp only [Act.put, yA, yB, yC]
             refine till_at (i := 9) (d := some 159) (v := ?_) (by kernel_rfl) (by kernel_rfl) (by kernel_rfl) (by kernel_rfl) (by kernel_rfl) (fun _ _ _ h => h) (fun o ho => ?_) hS0 ?_
             rotate_left
             ·simp only [zA, zB, zC, zD] at ho
              subst ho
              refine Or.inl ⟨by rfl, fun w' hSw => ?_⟩
              obtain ⟨hSw0, hSw1, hSw2, hSw3, hSw4, hSw5, hSw6⟩ := hSw
              go_simp
              try with_reducible rfl
             try simp only [Act.put, yA, yB, yC]
             refine till_step (i := 2) (by kernel_rfl) (by kernel_rfl) (fun o ho K' hK => ?_)
             simp only [zA, zB, zC, zD] at ho
             subst ho
             refine step_append_row E_tests (by rfl) _ _ (by rfl) wr.drew.heap.size (by rfl) (World.ownsRow_nil _ _ _ _) (by rfl) hrow (tests_len ts) (tests_one ts) HSZ.out.1 HSZ.out.2.1 (Nat.le_refl _) ?_
             intro v1 w1 own1 hgr1 _
             simp only [Nat.zero_add, List.nil_append] at own1
             have hx1 : Ext wr.drew w1 := Ext.grown (Ext.refl _) hgr1 (fun k hk => by cases hk)
             have hxe : Ext wr w1 := (Ext.refl wr).drew.trans hx1
             have HE1 := Lib.hid hxe
             obtain ⟨ca, cc, rfl, _⟩ := RowAt.open (RowAt.of_owns own1)
             clear hrow hgr1
             have hS2 := HSS.out _ HE1.out
             refine hK.out _ _ (fun _ => hS2) (fun _ => ?_)
             clear hK K'
             try simp only [Act.put, yA, yB, yC]
             refine till_step (i := 10) (by kernel_rfl) (by kernel_rfl) (fun o ho K' hK => ?_)
             simp only [zA, zB, zC, zD] at ho
             subst ho
             go_simp
             go_at_call 42
             refine (HCC.out _ (hxw.trans HE1.out)).mono ?_
             rintro e w2 ⟨rfl, hx2⟩
             have HE2 := Lib.hid (HE1.out.trans hx2)
             try go_simp
             have hS10 := HSS.out _ HE2.out
             refine hK.out _ _ (fun _ => hS10) (fun _ => ?_)
             clear hK K'
             try simp only [Act.put, yA, yB, yC]
             refine till_at (i := 11) (d := some 161) (v := ?_) (by kernel_rfl) (by kernel_rfl) (by kernel_rfl) (by kernel_rfl) (by kernel_rfl) (fun _ _ _ h => h) (fun o ho => ?_) hS10 ?_
             rotate_left
             ·simp only [zA, zB, zC, zD] at ho
              subst ho
              refine Or.inl ⟨by rfl, fun w' hSw => ?_⟩
              obtain ⟨hSw0, hSw1, hSw2, hSw3, hSw4, hSw5, hSw6⟩ := hSw
              go_simp
              try with_reducible rfl
             try simp only [Act.put, yA, yB, yC]
             refine till_step (i := 12) (by kernel_rfl) (by kernel_rfl) (fun o ho K' hK => ?_)
             simp only [zA, zB, zC, zD] at ho
             subst ho
             go_simp
             have hS12 := HSS.out _ (HE2.out.alloc (.cells #[.int .i64 (tn : Int), .bool cb] 33))
             refine hK.out _ _ (fun _ => hS12) (fun _ => ?_)
             clear hK K'
             try simp only [Act.put, yA, yB, yC]
             refine till_step (i := 13) (by kernel_rfl) (by kernel_rfl) (fun o ho K' hK => ?_)
             simp only [zA, zB, zC, zD] at ho
             subst ho
             refine step_append_row E_tests (by rfl) _ _ (by rfl) wr.drew.heap.size (by rfl) (owns_ext own1 (hx2.alloc (.cells #[.int .i64 (tn : Int), .bool cb] 33))) (by rfl) (RowAt.new1 w2 #[.int .i64 (tn : Int), .bool cb] 33) (by rfl) (by simp [Value.oneCell']) HSZ.out.2.2.1 HSZ.out.2.2.2 (Nat.le_trans hx1.size (hx2.alloc _).size) ?_
             intro v3 w3 own3 hgr3 _
             have hx3 : Ext wr w3 := Ext.grown (HE2.out.alloc (.cells #[.int .i64 (tn : Int), .bool cb] 33)) hgr3 (fun k hk => Nat.le_trans (Nat.le_of_eq rfl) (owns_block own1 k hk))
             have HE3 := Lib.hid hx3
             have hr3 : RowOf testC w3 v3 (ts ++ [((tn : Int), cb)]) := by have h := RowAt.of_owns own3; unfold RowOf; rw [List.flatMap_append, List.length_append]; exact h
             have HR3 := Lib.hid hr3
             have hoff : ∀ k, v3.ownBlock = some k → w.heap.size + 1 < k := fun k hk => Nat.lt_of_lt_of_le HLT2.out (owns_block own3 k hk)
             obtain ⟨na, nc, rfl, nc1, nc2, _⟩ := RowAt.open (RowAt.of_owns own3)
             have HOF := Lib.hid hoff
             clear hoff
             clear hr3 hgr3 own3 own1 hx1 hx2 hx3 hxe
             have hS13 := HSS.out _ HE3.out
             refine hK.out _ _ (fun _ => hS13) (fun _ => ?_)
             clear hK K'
             try simp only [Act.put, yA, yB, yC]
             refine till_at (i := 14) (d := some 164) (v := ?_) (by kernel_rfl) (by kernel_rfl) (by kernel_rfl) (by kernel_rfl) (by kernel_rfl) (fun _ _ _ h => h) (fun o ho => ?_) hS13 ?_
             rotate_left
             ·simp only [zA, zB, zC, zD] at ho
              subst ho
              refine Or.inl ⟨by rfl, fun w' hSw => ?_⟩
              obtain ⟨hSw0, hSw1, hSw2, hSw3, hSw4, hSw5, hSw6⟩ := hSw
              go_simp
              try with_reducible rfl
             try simp only [Act.put, yA, yB, yC]
             refine till_step (i := 15) (by kernel_rfl) (by kernel_rfl) (fun o ho K' hK => ?_)
             simp only [zA, zB, zC, zD] at ho
             subst ho
             go_simp
             refine hK.out _ _ (fun h => absurd rfl h) (fun _ => ?_)
             clear hK K'
             try simp only [Act.put, yA, yB, yC]
             refine till_done (by kernel_rfl) ?_ _
             refine NoPanic.normal ?_
             try simp only [Act.put, yA, yB, yC]
             have hxf : Ext w (w3.setCell ⟨w.heap.size + 1, 1, none⟩ (.slice na (ts.length + 1) nc)) := (hxw.trans HE3.out).setCell (Nat.le_succ _) _
             have hTf : Touch (· = w.heap.size + 1) w3 (w3.setCell ⟨w.heap.size + 1, 1, none⟩ (.slice na (ts.length + 1) nc)) := Touch.setCell _ rfl
             have hc3 := HCX.out _ HE3.out
             have HRF := Lib.hid (show RowOf testC (w3.setCell ⟨w.heap.size + 1, 1, none⟩ (.slice na (ts.length + 1) nc)) (.slice na (ts.length + 1) nc) (ts ++ [((tn : Int), cb)]) from
              RowAt.touch HR3.out hTf (fun a n c hv => by cases hv; exact fun e => absurd (HOF.out _ rfl) (by have e2 : a.block = w.heap.size + 1 := e; omega)))
             have HCF := Lib.hid (fun W (h : Ext (w3.setCell ⟨w.heap.size + 1, 1, none⟩ (.slice na (ts.length + 1) nc)) W) => (⟨h.cell (hTf.cell hc3.1 (by simp)), h.cell (hTf.cell hc3.2.1 (by simp)), h.cell (by go_simp), h.cell (by go_simp), h.cell (hTf.cell hc3.2.2.2.2.1 (by simp)), h.cell (hTf.cell hc3.2.2.2.2.2.1 (by simp)), (h.frozen (by go_simp; exact Nat.lt_of_lt_of_le HLT2.out HE3.out.size)).trans (by go_simp)⟩ :
              W.cell? ⟨w.heap.size, 0, none⟩ = some (.int .i64 b.years) ∧ W.cell? ⟨w.heap.size, 1, none⟩ = some (.slice ra b.rivers.length rc) ∧ W.cell? ⟨w.heap.size + 1, 0, none⟩ = some (.slice sa s.shells.length sc) ∧ W.cell? ⟨w.heap.size + 1, 1, none⟩ = some (.slice na (ts.length + 1) nc) ∧ W.cell? ⟨w.heap.size + 2, 0, none⟩ = some (.slice wa x.wea.length wc) ∧ W.cell? ⟨w.heap.size + 2, 1, none⟩ = some (.slice (some ⟨ob, of, none⟩) x.org.length oc) ∧ W.frozen? ⟨w.heap.size + 1, 1, none⟩ = false))
             obtain ⟨wz, hwz⟩ : ∃ wz : World, wz = (w3.setCell ⟨w.heap.size + 1, 1, none⟩ (.slice na (ts.length + 1) nc)) := ⟨_, rfl⟩
             rw [← hwz] at hxf HRF HCF ⊢
             have HXF := Lib.hid hxf
             clear hxf hTf hc3 hwz hxw HCX HCX0 HSS HE1 HE2 HE3 HR3 HOF
             obtain ⟨z0, z1, z2, z3, z4, z5, z6⟩ := HCF.out _ (Ext.refl _)
             have HSVF := Lib.hid (show SackAt wz (.agg #[.slice sa s.shells.length sc, .slice na (ts.length + 1) nc]) (tsack s (ts ++ [((tn : Int), cb)])) from ⟨_, _, rfl, HSHW.out _ HXF.out, HRF.out⟩)
             have HTF := Lib.hid (HTS.out _ _ HI2.out _ wz HXF.out HSVF.out)
             go_wp2_with (go_at_call 25; refine HTF.out.mono ?_; rintro e w4 ⟨t', n', f', rfl, hx4, htv'⟩; have HTV2 := Lib.hid htv'; clear htv')
             obtain ⟨m0, m4⟩ := TV.num HBB.out HI2.out HTV2.out
             have hlen : (ts ++ [((tn : Int), cb)]).length = ts.length + 1 := by simp
             have hnk2 : f' = 0 → n' + ((k + 1 : Nat) : Int) ≤ s.shells.length ∧ n' < nn := fun hf => by
              rcases HTV2.out with ⟨h, _⟩ | ⟨_, hk, he⟩
              ·omega
              ·have := HNX.out hk
               have e : (bestP m (patternsOf b (tsack s (ts ++ [((tn : Int), cb)])))).2 = n' := congrArg Prod.snd he
               omega
             have hlt2 : n' < nn := by
              rcases HTV2.out with ⟨_, _, _, h⟩ | ⟨h, _⟩
              ·have := HBN.out.1; omega
              ·exact (hnk2 h).2
             have HRL := Lib.hid (And.intro hlen (And.intro hnk2 hlt2))
             clear hlen hnk2 hlt2
             go_roundw
             case rel => exact ⟨k + 1, ts ++ [((tn : Int), cb)], na, nc, t', n', f', nn, rfl, rfl, rfl, rfl, HI2.out, HTV2.out, HRL.out.2.1, m0, m4, HXF.out.trans hx4, by rw [HRL.out.1]; exact nc1, nc2, by rw [HRL.out.1]; have := HBN.out.2.2; omega, by rw [HRL.out.1]; exact HCF.out _ hx4, by rw [HRL.out.1]; exact RowOf.ext HRF.out hx4⟩
             case measure => have := HRL.out.2.2; have := HBN.out.1; simp [intOf]; omega
end Go.Proofs.YtnhpibnneidmgaaGreatDoor
