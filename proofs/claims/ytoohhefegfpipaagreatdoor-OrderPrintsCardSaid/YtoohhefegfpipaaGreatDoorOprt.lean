/- The law OrderPrints. -/
import Derived.Test.YtoohhefegfpipaaGreatDoorOkn
import Derived.Test.YtoohhefegfpipaaGreatDoorOpt
import Derived.Test.YtoohhefegfpipaaGreatDoorOsp
import Derived.Test.YtoohhefegfpipaaGreatDoorRbk
import Derived.Test.YtoohhefegfpipaaGreatDoorOsab
namespace Go.Proofs.YtoohhefegfpipaaGreatDoor
open Go.RowKit
theorem Read_text {b : Book} (hB : BookB b) (hbb : isBookB b = true) {w : World} (ht : TabOk w) (hm : MaxOk w) : Calls Tryz.prog 42 #[strV (textT b)] w fun e w' => ∃ ga gc ea ec, e = .returned (.tuple #[.agg #[.slice ga b.goods.length gc, .int .i64 b.editions, .int .i64 b.moves, .slice ea b.entries.length ec], .int .i64 0]) ∧ BookAt w' (.agg #[.slice ga b.goods.length gc, .int .i64 b.editions, .int .i64 b.moves, .slice ea b.entries.length ec]) b ∧ Ext w w' := by
 have h2 := text_300 hB
 refine (Read_any (textT b) w ht hm (by omega)).mono fun e w' hp => ?_
 obtain ⟨v, err, rfl, hx, _, _, h5⟩ := hp
 obtain ⟨h3, h4⟩ := isText_book hB
 rw [h4] at h5
 obtain ⟨rfl, hba⟩ := (h5 h2 h3).1 hbb
 have hb2 := hba
 obtain ⟨ga, gc, ea, ec, rfl, _, _⟩ := hb2.open
 exact ⟨ga, gc, ea, ec, rfl, hba, hx⟩
set_option maxRecDepth 100000 in
set_option maxHeartbeats 8000000 in
theorem orderPrints_any (v : Value) (b : Book) (w : World) (hb : BookAt w v b) (ht : TabOk w) (hm : MaxOk w) : Calls Tryz.prog 7 #[v] w fun e w' => e = .returned (.bool true) ∧ Ext w w' := by
 have HB := Lib.hid (fun w1 (h : Ext w w1) => hb.ext h)
 have HS := Lib.hid (fun w1 (h : Ext w w1) => short_any v b w1 (hb.ext h))
 have HBK := Lib.hid (fun w1 (h : Ext w w1) => rbook_any v b w1 (hb.ext h))
 have HK := Lib.hid (fun w1 (h : Ext w w1) => lknown_any w1 (ht.ext h) (hm.ext h))
 have HP := Lib.hid (fun w1 (h : Ext w w1) => print_any v b w1 (hb.ext h) (ht.ext h))
 unfold PrintRes at HP
 have HT := Lib.hid (fun w1 (h : Ext w w1) => And.intro (ht.ext h) (hm.ext h))
 obtain ⟨ga, gc, ea, ec, rfl, _, _⟩ := hb.open
 have HX0 := Lib.hid ((Ext.refl w).alloc (bookBox (.slice ga b.goods.length gc) b (.slice ea b.entries.length ec)))
 have HC := Lib.hid (fun W (h : Ext (w.alloc (bookBox (.slice ga b.goods.length gc) b (.slice ea b.entries.length ec))) W) => BoxAt.ext (BoxAt.new w (.slice ga b.goods.length gc) b (.slice ea b.entries.length ec)) h)
 clear hb ht hm
 cases hs : shortB b with
 | false =>
  rw [hs] at HS
  clear hs
  go_enter Tryz.func7, Tryz.ntmps7
  go_wp2_with (first
   | (go_at_call 10; refine (HS.out _ HX0.out).mono ?_; rintro e w1 ⟨rfl, hx1⟩)
   | (go_at_call 11; refine (HK.out _ (HX0.out.trans hx1)).mono ?_; rintro e w2 ⟨rfl, hx2⟩))
  go_ret
  exact ⟨rfl, (HX0.out.trans hx1).trans hx2⟩
 | true =>
  rw [hs] at HS
  clear hs
  cases hbb : isBookB b with
  | false =>
   rw [hbb] at HP HBK
   rw [if_neg (by simp), if_neg (by simp)] at HP
   clear hbb
   go_enter Tryz.func7, Tryz.ntmps7
   go_wp2_with (first
    | (go_at_call 10; refine (HS.out _ HX0.out).mono ?_; rintro e w1 ⟨rfl, hx1⟩; obtain ⟨z0, z1, z2, z3⟩ := HC.out _ hx1; have hq := hx1; clear hx1)
    | (go_at_call 41; refine (HP.out _ (HX0.out.trans hq)).mono ?_; rintro e w2 ⟨rfl, hx2⟩; clear z0 z1 z2 z3; replace hq := hq.trans hx2; obtain ⟨z0, z1, z2, z3⟩ := HC.out _ hq; clear hx2)
    | (go_at_call 22; refine (HBK.out _ (HX0.out.trans hq)).mono ?_; rintro e w3 ⟨rfl, hx3⟩; replace hq := hq.trans hx3; clear hx3)
    | (go_at_call 11; refine (HK.out _ (HX0.out.trans hq)).mono ?_; rintro e w4 ⟨rfl, hx4⟩; replace hq := hq.trans hx4; clear hx4))
   go_ret
   exact ⟨rfl, HX0.out.trans hq⟩
  | true =>
   have hB := bookB_of hbb
   have HRD := Lib.hid (fun w1 (h : Ext w w1) => Read_text hB hbb (HT.out w1 h).1 (HT.out w1 h).2)
   have HRP := Lib.hid (fun w1 (h : Ext w w1) => rprint_any _ b w1 (HB.out w1 h) (textSmall_of hbb))
   have HSB := Lib.hid (fun u w1 (h : Ext w w1) (hu : BookAt w1 u b) => sameB_yes u _ b w1 hu (HB.out w1 h))
   rw [hbb] at HP HBK
   rw [if_pos rfl, if_pos rfl] at HP
   clear hbb hB
   generalize textT b = tt at *
   have q1 : decide (tt = tt) = true := by simp
   have q2 : (tt == tt) = true := by simp
   go_enter Tryz.func7, Tryz.ntmps7
   go_wp2_with (first
    | (go_at_call 10; refine (HS.out _ HX0.out).mono ?_; rintro e w1 ⟨rfl, hx1⟩; obtain ⟨z0, z1, z2, z3⟩ := HC.out _ hx1; have hq := hx1; clear hx1)
    | (go_at_call 41; refine (HP.out _ (HX0.out.trans hq)).mono ?_; rintro e w2 ⟨rfl, hx2⟩; clear z0 z1 z2 z3; replace hq := hq.trans hx2; obtain ⟨z0, z1, z2, z3⟩ := HC.out _ hq; clear hx2)
    | (go_at_call 22; refine (HBK.out _ (HX0.out.trans hq)).mono ?_; rintro e w3 ⟨rfl, hx3⟩; replace hq := hq.trans hx3; clear hx3)
    | (go_at_call 42; refine (HRD.out _ (HX0.out.trans hq)).mono ?_; rintro e w4 ⟨xga, xgc, xea, xec, rfl, hxb, hx4⟩; clear z0 z1 z2 z3; replace hq := hq.trans hx4; have hza := (Ext.refl w4).alloc (bookBox (.slice xga b.goods.length xgc) b (.slice xea b.entries.length xec)); have HXB := Lib.hid (hxb.ext hza); obtain ⟨z0, z1, z2, z3⟩ := HC.out _ (hq.trans hza); have HQ4 := Lib.hid (hq.trans hza); obtain ⟨y0, y1, y2, y3⟩ := BoxAt.new w4 (.slice xga b.goods.length xgc) b (.slice xea b.entries.length xec); clear hxb hx4 hza hq)
    | (go_at_call 43; refine (HRP.out _ (HX0.out.trans HQ4.out)).mono ?_; rintro e w5 ⟨rfl, hx5⟩; clear z0 z1 z2 z3; have hq := HQ4.out.trans hx5; obtain ⟨z0, z1, z2, z3⟩ := HC.out _ hq; have u0 := hx5.cell y0; have u1 := hx5.cell y1; have u2 := hx5.cell y2; have u3 := hx5.cell y3; have HX5 := Lib.hid hx5; clear hx5 y0 y1 y2 y3)
    | (go_at_call 44; refine (HSB.out _ _ (HX0.out.trans hq) (HXB.out.ext HX5.out)).mono ?_; rintro e w6 ⟨rfl, hx6⟩; replace hq := hq.trans hx6; clear hx6)
    | (go_at_call 11; refine (HK.out _ (HX0.out.trans hq)).mono ?_; rintro e w7 ⟨rfl, hx7⟩; replace hq := hq.trans hx7; clear hx7))
   go_ret
   exact ⟨rfl, HX0.out.trans hq⟩
end Go.Proofs.YtoohhefegfpipaaGreatDoor
