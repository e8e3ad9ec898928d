/- The law RiverPrints. -/
import Derived.Test.YtdmdabhdcpjkiaaGreatDoorLawb
import Derived.Test.YtdmdabhdcpjkiaaGreatDoorReadc
import Derived.Test.YtdmdabhdcpjkiaaGreatDoorRprint
import Derived.Test.YtdmdabhdcpjkiaaGreatDoorSameb
import Derived.Test.YtdmdabhdcpjkiaaGreatDoorSpoilp
namespace Go.Proofs.YtdmdabhdcpjkiaaGreatDoor
open Go.RowKit
theorem Read_text {b : Book} (hB : BookB b) (hbb : isBookB b = true) {w : World} (ht : TabOk w) (hm : MaxOk w) : Calls Tryz.prog 26 #[strV (textT b)] w fun e w' => ∃ a c, e = .returned (.tuple #[.agg #[.int .i64 b.years, .slice a b.rivers.length c], .int .i64 0]) ∧ BookAt w' (.agg #[.int .i64 b.years, .slice a b.rivers.length c]) b ∧ Ext w w' := by
 have h2 := text_200 hB
 refine (Read_any (textT b) w ht hm (by omega)).mono fun e w' hp => ?_
 obtain ⟨v, err, rfl, hx, _, _, h5⟩ := hp
 obtain ⟨rfl, hba⟩ := (h5 h2 b ⟨textN_of hB, rfl⟩).1 hbb
 obtain ⟨a, c, rfl, _⟩ := hba.slice
 exact ⟨a, c, rfl, hba, hx⟩
set_option maxRecDepth 100000 in
set_option maxHeartbeats 8000000 in
theorem riverPrints_any (v : Value) (b : Book) (w : World) (hb : BookAt w v b) (ht : TabOk w) (hm : MaxOk w) : Calls Tryz.prog 5 #[v] w (TrueP w) := by
 have HL := Lib.hid (LawB.of hb ht)
 have HB := Lib.hid (fun w1 (h : Ext w w1) => hb.ext h)
 have HP := Lib.hid (fun w1 (h : Ext w w1) => Print_any v b w1 (hb.ext h) (ht.ext h))
 unfold PrintRes at HP
 have HT := Lib.hid (fun w1 (h : Ext w w1) => And.intro (ht.ext h) (hm.ext h))
 obtain ⟨ra, rc, rfl, _⟩ := hb.slice
 have HS := Lib.hid HL.out.slim
 have HK := Lib.hid HL.out.known
 have HBK := Lib.hid HL.out.book
 have HX0 := Lib.hid ((Ext.refl w).alloc (.cells #[.int .i64 b.years, .slice ra b.rivers.length rc] 24))
 have HC := Lib.hid (fun W (h : Ext (w.alloc (.cells #[.int .i64 b.years, .slice ra b.rivers.length rc] 24)) W) => (⟨h.cell (by go_simp), h.cell (by go_simp)⟩ : W.cell? ⟨w.heap.size, 0, none⟩ = some (.int .i64 b.years) ∧ W.cell? ⟨w.heap.size, 1, none⟩ = some (.slice ra b.rivers.length rc)))
 clear hb ht hm HL
 cases hs : slimB b with
 | false =>
  rw [hs] at HS
  clear hs
  go_enter Tryz.func5, Tryz.ntmps5
  go_wp2_with (first
   | (go_at_call 8; refine (HS.out _ HX0.out).mono ?_; rintro e w1 ⟨rfl, hx1⟩)
   | (go_at_call 10; refine (HK.out _ (HX0.out.trans hx1)).mono ?_; rintro e w2 ⟨rfl, hx2⟩))
  go_ret
  exact ⟨rfl, (HX0.out.trans hx1).trans hx2⟩
 | true =>
  rw [hs] at HS
  clear hs
  cases hbb : isBookB b with
  | false =>
   rw [hbb] at HP HBK
   rw [if_neg (by simp), if_neg (by simp)] at HP
   clear hbb
   go_enter Tryz.func5, Tryz.ntmps5
   go_wp2_with (first
    | (go_at_call 8; refine (HS.out _ HX0.out).mono ?_; rintro e w1 ⟨rfl, hx1⟩; obtain ⟨z0, z1⟩ := HC.out _ hx1; have hq := hx1; clear hx1)
    | (go_at_call 25; refine (HP.out _ (HX0.out.trans hq)).mono ?_; rintro e w2 ⟨rfl, hx2⟩; clear z0 z1; replace hq := hq.trans hx2; obtain ⟨z0, z1⟩ := HC.out _ hq; clear hx2)
    | (go_at_call 12; refine (HBK.out _ (HX0.out.trans hq)).mono ?_; rintro e w3 ⟨rfl, hx3⟩; replace hq := hq.trans hx3; clear hx3)
    | (go_at_call 10; refine (HK.out _ (HX0.out.trans hq)).mono ?_; rintro e w4 ⟨rfl, hx4⟩; replace hq := hq.trans hx4; clear hx4))
   go_ret
   exact ⟨rfl, HX0.out.trans hq⟩
  | true =>
   have hB := bookB_of hbb
   have HRD := Lib.hid (fun w1 (h : Ext w w1) => Read_text hB hbb (HT.out w1 h).1 (HT.out w1 h).2)
   have HRP := Lib.hid (fun w1 (h : Ext w w1) => rprint_any _ b w1 (HB.out w1 h) (textB_of hB))
   have HSB := Lib.hid (fun u w1 (h : Ext w w1) (hu : BookAt w1 u b) => sameB_yes u _ b w1 hu (HB.out w1 h))
   rw [hbb] at HP HBK
   rw [if_pos rfl, if_pos rfl] at HP
   clear hbb hB
   generalize textT b = tt at *
   have q1 : decide (tt = tt) = true := by simp
   have q2 : (tt == tt) = true := by simp
   go_enter Tryz.func5, Tryz.ntmps5
   go_wp2_with (first
    | (go_at_call 8; refine (HS.out _ HX0.out).mono ?_; rintro e w1 ⟨rfl, hx1⟩; obtain ⟨z0, z1⟩ := HC.out _ hx1; have hq := hx1; clear hx1)
    | (go_at_call 25; refine (HP.out _ (HX0.out.trans hq)).mono ?_; rintro e w2 ⟨rfl, hx2⟩; clear z0 z1; replace hq := hq.trans hx2; obtain ⟨z0, z1⟩ := HC.out _ hq; clear hx2)
    | (go_at_call 12; refine (HBK.out _ (HX0.out.trans hq)).mono ?_; rintro e w3 ⟨rfl, hx3⟩; replace hq := hq.trans hx3; clear hx3)
    | (go_at_call 26; refine (HRD.out _ (HX0.out.trans hq)).mono ?_; rintro e w4 ⟨xa, xc, rfl, hxb, hx4⟩; clear z0 z1; replace hq := hq.trans hx4; have hza := (Ext.refl w4).alloc (.cells #[.int .i64 b.years, .slice xa b.rivers.length xc] 24); have HXB := Lib.hid (hxb.ext hza); obtain ⟨z0, z1⟩ := HC.out _ (hq.trans hza); have HQ4 := Lib.hid (hq.trans hza); have y0 : (w4.alloc (.cells #[.int .i64 b.years, .slice xa b.rivers.length xc] 24)).cell? ⟨w4.heap.size, 0, none⟩ = some (.int .i64 b.years) := (by go_simp); have y1 : (w4.alloc (.cells #[.int .i64 b.years, .slice xa b.rivers.length xc] 24)).cell? ⟨w4.heap.size, 1, none⟩ = some (.slice xa b.rivers.length xc) := (by go_simp); clear hx4 hxb hza hq)
    | (go_at_call 27; refine (HRP.out _ (HX0.out.trans HQ4.out)).mono ?_; rintro e w5 ⟨rfl, hx5⟩; clear z0 z1; have hq := HQ4.out.trans hx5; obtain ⟨z0, z1⟩ := HC.out _ hq; have u0 := hx5.cell y0; have u1 := hx5.cell y1; have HX5 := Lib.hid hx5; clear hx5 y0 y1)
    | (go_at_call 28; refine (HSB.out _ _ (HX0.out.trans hq) (HXB.out.ext HX5.out)).mono ?_; rintro e w6 ⟨rfl, hx6⟩; replace hq := hq.trans hx6; clear hx6)
    | (go_at_call 10; refine (HK.out _ (HX0.out.trans hq)).mono ?_; rintro e w7 ⟨rfl, hx7⟩; replace hq := hq.trans hx7; clear hx7))
   go_ret
   exact ⟨rfl, HX0.out.trans hq⟩
end Go.Proofs.YtdmdabhdcpjkiaaGreatDoor
