/- The law OrderLetters. -/
import Derived.Test.YtokananogogjaaaGreatDoorOkn
import Derived.Test.YtokananogogjaaaGreatDoorOrby
import Derived.Test.YtokananogogjaaaGreatDoorOrt
import Derived.Test.YtokananogogjaaaGreatDoorOr
import Derived.Test.YtokananogogjaaaGreatDoorRsz
import Derived.Test.YtokananogogjaaaGreatDoorOrft
import Derived.Test.YtokananogogjaaaGreatDoorOrh
namespace Go.Proofs.YtokananogogjaaaGreatDoor
open Go.RowKit
theorem SpansAt.ext {w w' : World} {v : Value} {l : List (Int × Int)} (h : SpansAt w v l) (k : Ext w w') : SpansAt w' v l := RowAt.ext h k
theorem reads_no {b : Book} {x : Buyer} {w w' : World} {e : Ending} {z : Int} (h : ReadsRes b x w e w') (hz : letErr b x = z) (h0 : z ≠ 0) : e = .returned (.tuple #[.slice none 0 0, .int .i64 z]) ∧ Ext w w' := by
 rcases h.2 with ⟨_, r⟩ | ⟨r, _⟩
 ·exact ⟨by rw [r, hz], h.1⟩
 ·exact absurd (hz.symm.trans r) h0
theorem which_no {b : Book} {x : Buyer} {w w' : World} {e : Ending} {z : Int} (h : WhichRes b x w e w') (hz : letErr b x = z) (h0 : z ≠ 0) : e = .returned (.tuple #[.slice none 0 0, .int .i64 z]) ∧ Ext w w' := by
 rcases h.2 with ⟨_, r⟩ | ⟨r, _⟩
 ·exact ⟨by rw [r, hz], h.1⟩
 ·exact absurd (hz.symm.trans r) h0
theorem wants_no {b : Book} {x : Buyer} {w w' : World} {e : Ending} {z : Int} (h : WantsRes b x w e w') (hz : letErr b x = z) (h0 : z ≠ 0) : e = .returned (.tuple #[.slice none 0 0, .int .i64 z]) ∧ Ext w w' := by
 rcases h.2 with ⟨_, r⟩ | ⟨r, _⟩
 ·exact ⟨by rw [r, hz], h.1⟩
 ·exact absurd (hz.symm.trans r) h0
theorem reads_yes {b : Book} {x : Buyer} {w w' : World} {e : Ending} (h : ReadsRes b x w e w') (hz : letErr b x = 0) : ∃ a c, e = .returned (.tuple #[.slice a x.letters.length c, .int .i64 0]) ∧ Ext w w' ∧ IntRowsAt w' (.slice a x.letters.length c) (readingsB b x) := by
 rcases h.2 with ⟨r, _⟩ | ⟨_, u, r, hu⟩
 ·exact absurd hz r
 ·obtain ⟨a, c, rfl, _⟩ := hu.open
  rw [show (readingsB b x).length = x.letters.length by unfold readingsB; rw [List.length_map]] at r hu
  exact ⟨a, c, r, h.1, hu⟩
theorem which_yes {b : Book} {x : Buyer} {w w' : World} {e : Ending} (h : WhichRes b x w e w') (hz : letErr b x = 0) : ∃ a c, e = .returned (.tuple #[.slice a (whichB b x).length c, .int .i64 0]) ∧ Ext w w' ∧ IntsAt w' (.slice a (whichB b x).length c) (whichB b x) := by
 rcases h.2 with ⟨r, _⟩ | ⟨_, u, r, hu⟩
 ·exact absurd hz r
 ·obtain ⟨a, c, rfl, _⟩ := hu.open
  exact ⟨a, c, r, h.1, hu⟩
theorem wants_yes {b : Book} {x : Buyer} {w w' : World} {e : Ending} (h : WantsRes b x w e w') (hz : letErr b x = 0) : ∃ a c, e = .returned (.tuple #[.slice a b.goods.length c, .int .i64 0]) ∧ Ext w w' ∧ SpansAt w' (.slice a b.goods.length c) (wantsB b x) := by
 rcases h.2 with ⟨r, _⟩ | ⟨_, u, r, hu⟩
 ·exact absurd hz r
 ·obtain ⟨a, c, rfl, _⟩ := RowAt.open hu
  rw [wants_len] at r
  have hu' := hu
  rw [wants_len] at hu'
  exact ⟨a, c, r, h.1, hu'⟩
theorem nums_yes {b : Book} {f : Bool} {l : List Int} {w w' : World} {e : Ending} (h : NumsRes b f l w e w') (hz : askErr b f = 0) : ∃ a c, e = .returned (.tuple #[.slice a l.length c, .int .i64 0]) ∧ Ext w w' ∧ IntsAt w' (.slice a l.length c) l := by
 rcases h.2 with ⟨r, _⟩ | ⟨_, u, r, hu⟩
 ·exact absurd hz r
 ·obtain ⟨a, c, rfl, _⟩ := hu.open
  exact ⟨a, c, r, h.1, hu⟩
theorem let_ask {b : Book} {x : Buyer} (h : letErr b x = 0) (hx : isBuyerB b x = true) : askErr b true = 0 := by
 unfold letErr at h
 rw [hx] at h
 split at h
 ·assumption
 ·exact h
set_option maxRecDepth 100000 in
set_option maxHeartbeats 16000000 in
theorem orderLetters_any (v : Value) (b : Book) (xv : Value) (x : Buyer) (tv : Value) (t : List (List Int)) (edition : Int) (w : World) (hb : BookAt w v b) (hx : BuyerAt w xv x) (htt : TruthAt w tv t) (ht : TabOk w) (hm : MaxOk w) :
 Calls Tryz.prog 3 #[v, xv, tv, .int .i64 edition] w fun e w' => e = .returned (.bool true) ∧ Ext w w' := by
 obtain ⟨ga, gc, ea, ec, rfl, hgl, hel⟩ := hb.open
 obtain ⟨la, lc, rfl, hl1, hl2, hlr⟩ := hx.open
 obtain ⟨rv, rfl, hr⟩ := htt
 obtain ⟨ra, rc, rfl, _, _, r3⟩ := hr.open
 obtain ⟨W, HW⟩ : ∃ W, Hid (W = ((w.alloc (bookBox (.slice ga b.goods.length gc) b (.slice ea b.entries.length ec))).alloc (.cells #[.int .i64 x.editions, .slice la x.letters.length lc] 28)).alloc (.cells #[.slice ra t.length rc] 31)) := ⟨_, rfl⟩
 have HX0 := Lib.hid (show Ext w W by rw [HW.out]; exact (((Ext.refl w).alloc _).alloc _).alloc _)
 have HF := Lib.hid (fun W1 (h : Ext W W1) => (And.intro (h.cell (show W.cell? ⟨w.heap.size + 1, 0, none⟩ = some (.int .i64 x.editions) by rw [HW.out]; go_simp)) (And.intro (h.cell (show W.cell? ⟨w.heap.size + 1, 1, none⟩ = some (.slice la x.letters.length lc) by rw [HW.out]; go_simp)) (And.intro (h.cell (show W.cell? ⟨w.heap.size + 2, 0, none⟩ = some (.slice ra t.length rc) by rw [HW.out]; go_simp)) (BoxAt.ext (show BoxAt W w.heap.size (.slice ga b.goods.length gc) b (.slice ea b.entries.length ec) by rw [HW.out]; exact (BoxAt.new _ _ _ _).ext (((Ext.refl _).alloc _).alloc _)) h)))))
 have HKN := Lib.hid (fun W1 (h : Ext W W1) => lknown_any W1 (ht.ext (HX0.out.trans h)) (hm.ext (HX0.out.trans h)))
 have HBA := Lib.hid (fun W1 (h : Ext W W1) => hb.ext (HX0.out.trans h))
 have HXA := Lib.hid (fun W1 (h : Ext W W1) => hx.ext (HX0.out.trans h))
 have HTA := Lib.hid (fun W1 (h : Ext W W1) => (show TruthAt W1 (.agg #[.slice ra t.length rc]) t from ⟨_, rfl, hr.ext (HX0.out.trans h)⟩))
 obtain ⟨_, _, hve, _, _, l3⟩ := RowOf.open4 (f := letC) (fun _ => rfl) hlr
 cases hve
 have HL3 := Lib.hid l3
 have HT3 := Lib.hid r3
 have HSH := Lib.hid (fun W1 (h : Ext W W1) => short_any _ b W1 (HBA.out W1 h))
 have HSZ := Lib.hid (fun W1 (h : Ext W W1) => (sized_any _ t W1 (hr.ext (HX0.out.trans h))).mono (R' := fun e w' => e = .returned (.bool (sizedB t)) ∧ Ext W1 w') (fun _ _ q => ⟨q.1, q.2 ▸ Ext.refl _⟩))
 have HBK := Lib.hid (fun W1 (h : Ext W W1) => rbook_any _ b W1 (HBA.out W1 h))
 have HSD := Lib.hid (fun W1 (h : Ext W W1) => rsized_any _ _ b t W1 (HBA.out W1 h) (HTA.out W1 h))
 have HED := Lib.hid (fun W1 (_ : Ext W W1) => redition_any ga ea b.goods.length gc b.entries.length ec b edition W1)
 clear hb hx hr hlr l3 r3 ht hm hgl hel
 go_enter Tryz.func3, Tryz.ntmps3
 go_upto_region 1 with fail
 rw [← HW.out]
 have hq := Ext.refl W
 obtain ⟨c4, c5, m0, b0, b1, b2, b3⟩ := HF.out _ hq
 cases i0 : shortB b with
 | false =>
  rw [i0] at HSH
  clear i0
  go_wp2_with (first | (go_at_call 5; refine (HSH.out _ hq).mono ?_; rintro e w' ⟨rfl, hx⟩; have hq := hq.trans hx; clear hx; clear c4 c5 m0 b0 b1 b2 b3; obtain ⟨c4, c5, m0, b0, b1, b2, b3⟩ := HF.out _ hq) | (go_at_call 13; refine (HKN.out _ hq).mono ?_; rintro e w' ⟨rfl, hx⟩; have hq := hq.trans hx; clear hx; clear c4 c5 m0 b0 b1 b2 b3; obtain ⟨c4, c5, m0, b0, b1, b2, b3⟩ := HF.out _ hq))
  go_ret
  exact ⟨rfl, HX0.out.trans hq⟩
 | true =>
 rw [i0] at HSH
 cases i1 : decide (6 < (x.letters.length : Int)) with
 | true =>
  clear i0
  go_wp2_with (first | (go_at_call 5; refine (HSH.out _ hq).mono ?_; rintro e w' ⟨rfl, hx⟩; have hq := hq.trans hx; clear hx; clear c4 c5 m0 b0 b1 b2 b3; obtain ⟨c4, c5, m0, b0, b1, b2, b3⟩ := HF.out _ hq) | (go_at_call 13; refine (HKN.out _ hq).mono ?_; rintro e w' ⟨rfl, hx⟩; have hq := hq.trans hx; clear hx; clear c4 c5 m0 b0 b1 b2 b3; obtain ⟨c4, c5, m0, b0, b1, b2, b3⟩ := HF.out _ hq))
  go_ret
  exact ⟨rfl, HX0.out.trans hq⟩
 | false =>
 cases i2 : sizedB t with
 | false =>
  rw [i2] at HSZ
  clear i0 i2
  go_wp2_with (first | (go_at_call 5; refine (HSH.out _ hq).mono ?_; rintro e w' ⟨rfl, hx⟩; have hq := hq.trans hx; clear hx; clear c4 c5 m0 b0 b1 b2 b3; obtain ⟨c4, c5, m0, b0, b1, b2, b3⟩ := HF.out _ hq) | (go_at_call 6; refine (HSZ.out _ hq).mono ?_; rintro e w' ⟨rfl, hx⟩; have hq := hq.trans hx; clear hx; clear c4 c5 m0 b0 b1 b2 b3; obtain ⟨c4, c5, m0, b0, b1, b2, b3⟩ := HF.out _ hq) | (go_at_call 13; refine (HKN.out _ hq).mono ?_; rintro e w' ⟨rfl, hx⟩; have hq := hq.trans hx; clear hx; clear c4 c5 m0 b0 b1 b2 b3; obtain ⟨c4, c5, m0, b0, b1, b2, b3⟩ := HF.out _ hq))
  go_ret
  exact ⟨rfl, HX0.out.trans hq⟩
 | true =>
 rw [i2] at HSZ
 cases i3 : isBookB b with
 | false =>
  rw [i3] at HBK
  clear i0 i2 i3
  go_wp2_with (first | (go_at_call 5; refine (HSH.out _ hq).mono ?_; rintro e w' ⟨rfl, hx⟩; have hq := hq.trans hx; clear hx; clear c4 c5 m0 b0 b1 b2 b3; obtain ⟨c4, c5, m0, b0, b1, b2, b3⟩ := HF.out _ hq) | (go_at_call 6; refine (HSZ.out _ hq).mono ?_; rintro e w' ⟨rfl, hx⟩; have hq := hq.trans hx; clear hx; clear c4 c5 m0 b0 b1 b2 b3; obtain ⟨c4, c5, m0, b0, b1, b2, b3⟩ := HF.out _ hq) | (go_at_call 7; refine (HBK.out _ hq).mono ?_; rintro e w' ⟨rfl, hx⟩; have hq := hq.trans hx; clear hx; clear c4 c5 m0 b0 b1 b2 b3; obtain ⟨c4, c5, m0, b0, b1, b2, b3⟩ := HF.out _ hq) | (go_at_call 13; refine (HKN.out _ hq).mono ?_; rintro e w' ⟨rfl, hx⟩; have hq := hq.trans hx; clear hx; clear c4 c5 m0 b0 b1 b2 b3; obtain ⟨c4, c5, m0, b0, b1, b2, b3⟩ := HF.out _ hq))
  go_ret
  exact ⟨rfl, HX0.out.trans hq⟩
 | true =>
 rw [i3] at HBK
 have hB := bookB_of i3
 have HBU := Lib.hid (fun W1 (h : Ext W W1) => rbuyer_any _ _ b x W1 hB (HBA.out W1 h) (HXA.out W1 h))
 cases i4 : isBuyerB b x with
 | false =>
  rw [i4] at HBU
  clear i0 i2 i3 i4 hB
  go_wp2_with (first | (go_at_call 5; refine (HSH.out _ hq).mono ?_; rintro e w' ⟨rfl, hx⟩; have hq := hq.trans hx; clear hx; clear c4 c5 m0 b0 b1 b2 b3; obtain ⟨c4, c5, m0, b0, b1, b2, b3⟩ := HF.out _ hq) | (go_at_call 6; refine (HSZ.out _ hq).mono ?_; rintro e w' ⟨rfl, hx⟩; have hq := hq.trans hx; clear hx; clear c4 c5 m0 b0 b1 b2 b3; obtain ⟨c4, c5, m0, b0, b1, b2, b3⟩ := HF.out _ hq) | (go_at_call 7; refine (HBK.out _ hq).mono ?_; rintro e w' ⟨rfl, hx⟩; have hq := hq.trans hx; clear hx; clear c4 c5 m0 b0 b1 b2 b3; obtain ⟨c4, c5, m0, b0, b1, b2, b3⟩ := HF.out _ hq) | (go_at_call 8; refine (HBU.out _ hq).mono ?_; rintro e w' ⟨rfl, hx⟩; have hq := hq.trans hx; clear hx; clear c4 c5 m0 b0 b1 b2 b3; obtain ⟨c4, c5, m0, b0, b1, b2, b3⟩ := HF.out _ hq) | (go_at_call 13; refine (HKN.out _ hq).mono ?_; rintro e w' ⟨rfl, hx⟩; have hq := hq.trans hx; clear hx; clear c4 c5 m0 b0 b1 b2 b3; obtain ⟨c4, c5, m0, b0, b1, b2, b3⟩ := HF.out _ hq))
  go_ret
  exact ⟨rfl, HX0.out.trans hq⟩
 | true =>
 rw [i4] at HBU
 cases i5 : isMeansB b t with
 | false =>
  rw [i5] at HSD
  clear i0 i2 i3 i4 i5 hB
  go_wp2_with (first | (go_at_call 5; refine (HSH.out _ hq).mono ?_; rintro e w' ⟨rfl, hx⟩; have hq := hq.trans hx; clear hx; clear c4 c5 m0 b0 b1 b2 b3; obtain ⟨c4, c5, m0, b0, b1, b2, b3⟩ := HF.out _ hq) | (go_at_call 6; refine (HSZ.out _ hq).mono ?_; rintro e w' ⟨rfl, hx⟩; have hq := hq.trans hx; clear hx; clear c4 c5 m0 b0 b1 b2 b3; obtain ⟨c4, c5, m0, b0, b1, b2, b3⟩ := HF.out _ hq) | (go_at_call 7; refine (HBK.out _ hq).mono ?_; rintro e w' ⟨rfl, hx⟩; have hq := hq.trans hx; clear hx; clear c4 c5 m0 b0 b1 b2 b3; obtain ⟨c4, c5, m0, b0, b1, b2, b3⟩ := HF.out _ hq) | (go_at_call 8; refine (HBU.out _ hq).mono ?_; rintro e w' ⟨rfl, hx⟩; have hq := hq.trans hx; clear hx; clear c4 c5 m0 b0 b1 b2 b3; obtain ⟨c4, c5, m0, b0, b1, b2, b3⟩ := HF.out _ hq) | (go_at_call 9; refine (HSD.out _ hq).mono ?_; rintro e w' ⟨rfl, hx⟩; have hq := hq.trans hx; clear hx; clear c4 c5 m0 b0 b1 b2 b3; obtain ⟨c4, c5, m0, b0, b1, b2, b3⟩ := HF.out _ hq) | (go_at_call 13; refine (HKN.out _ hq).mono ?_; rintro e w' ⟨rfl, hx⟩; have hq := hq.trans hx; clear hx; clear c4 c5 m0 b0 b1 b2 b3; obtain ⟨c4, c5, m0, b0, b1, b2, b3⟩ := HF.out _ hq))
  go_ret
  exact ⟨rfl, HX0.out.trans hq⟩
 | true =>
 rw [i5] at HSD
 have HRF := Lib.hid (fun W1 (h : Ext W W1) => rfits_any _ _ b t W1 hB i5 (HBA.out W1 h) (HTA.out W1 h))
 cases i6 : fitsB b t with
 | false =>
  rw [i6] at HRF
  clear i0 i2 i3 i4 i5 i6 hB
  go_wp2_with (first | (go_at_call 5; refine (HSH.out _ hq).mono ?_; rintro e w' ⟨rfl, hx⟩; have hq := hq.trans hx; clear hx; clear c4 c5 m0 b0 b1 b2 b3; obtain ⟨c4, c5, m0, b0, b1, b2, b3⟩ := HF.out _ hq) | (go_at_call 6; refine (HSZ.out _ hq).mono ?_; rintro e w' ⟨rfl, hx⟩; have hq := hq.trans hx; clear hx; clear c4 c5 m0 b0 b1 b2 b3; obtain ⟨c4, c5, m0, b0, b1, b2, b3⟩ := HF.out _ hq) | (go_at_call 7; refine (HBK.out _ hq).mono ?_; rintro e w' ⟨rfl, hx⟩; have hq := hq.trans hx; clear hx; clear c4 c5 m0 b0 b1 b2 b3; obtain ⟨c4, c5, m0, b0, b1, b2, b3⟩ := HF.out _ hq) | (go_at_call 8; refine (HBU.out _ hq).mono ?_; rintro e w' ⟨rfl, hx⟩; have hq := hq.trans hx; clear hx; clear c4 c5 m0 b0 b1 b2 b3; obtain ⟨c4, c5, m0, b0, b1, b2, b3⟩ := HF.out _ hq) | (go_at_call 9; refine (HSD.out _ hq).mono ?_; rintro e w' ⟨rfl, hx⟩; have hq := hq.trans hx; clear hx; clear c4 c5 m0 b0 b1 b2 b3; obtain ⟨c4, c5, m0, b0, b1, b2, b3⟩ := HF.out _ hq) | (go_at_call 10; refine (HRF.out _ hq).mono ?_; rintro e w' ⟨rfl, hx⟩; have hq := hq.trans hx; clear hx; clear c4 c5 m0 b0 b1 b2 b3; obtain ⟨c4, c5, m0, b0, b1, b2, b3⟩ := HF.out _ hq) | (go_at_call 13; refine (HKN.out _ hq).mono ?_; rintro e w' ⟨rfl, hx⟩; have hq := hq.trans hx; clear hx; clear c4 c5 m0 b0 b1 b2 b3; obtain ⟨c4, c5, m0, b0, b1, b2, b3⟩ := HF.out _ hq))
  go_ret
  exact ⟨rfl, HX0.out.trans hq⟩
 | true =>
 rw [i6] at HRF
 cases i7 : isEditionW b edition with
 | false =>
  rw [i7] at HED
  clear i0 i2 i3 i4 i5 i6 i7 hB
  go_wp2_with (first | (go_at_call 5; refine (HSH.out _ hq).mono ?_; rintro e w' ⟨rfl, hx⟩; have hq := hq.trans hx; clear hx; clear c4 c5 m0 b0 b1 b2 b3; obtain ⟨c4, c5, m0, b0, b1, b2, b3⟩ := HF.out _ hq) | (go_at_call 6; refine (HSZ.out _ hq).mono ?_; rintro e w' ⟨rfl, hx⟩; have hq := hq.trans hx; clear hx; clear c4 c5 m0 b0 b1 b2 b3; obtain ⟨c4, c5, m0, b0, b1, b2, b3⟩ := HF.out _ hq) | (go_at_call 7; refine (HBK.out _ hq).mono ?_; rintro e w' ⟨rfl, hx⟩; have hq := hq.trans hx; clear hx; clear c4 c5 m0 b0 b1 b2 b3; obtain ⟨c4, c5, m0, b0, b1, b2, b3⟩ := HF.out _ hq) | (go_at_call 8; refine (HBU.out _ hq).mono ?_; rintro e w' ⟨rfl, hx⟩; have hq := hq.trans hx; clear hx; clear c4 c5 m0 b0 b1 b2 b3; obtain ⟨c4, c5, m0, b0, b1, b2, b3⟩ := HF.out _ hq) | (go_at_call 9; refine (HSD.out _ hq).mono ?_; rintro e w' ⟨rfl, hx⟩; have hq := hq.trans hx; clear hx; clear c4 c5 m0 b0 b1 b2 b3; obtain ⟨c4, c5, m0, b0, b1, b2, b3⟩ := HF.out _ hq) | (go_at_call 10; refine (HRF.out _ hq).mono ?_; rintro e w' ⟨rfl, hx⟩; have hq := hq.trans hx; clear hx; clear c4 c5 m0 b0 b1 b2 b3; obtain ⟨c4, c5, m0, b0, b1, b2, b3⟩ := HF.out _ hq) | (go_at_call 11; refine (HED.out _ hq).mono ?_; rintro e w' ⟨rfl, hx⟩; have hq := hq.trans hx; clear hx; clear c4 c5 m0 b0 b1 b2 b3; obtain ⟨c4, c5, m0, b0, b1, b2, b3⟩ := HF.out _ hq) | (go_at_call 13; refine (HKN.out _ hq).mono ?_; rintro e w' ⟨rfl, hx⟩; have hq := hq.trans hx; clear hx; clear c4 c5 m0 b0 b1 b2 b3; obtain ⟨c4, c5, m0, b0, b1, b2, b3⟩ := HF.out _ hq))
  go_ret
  exact ⟨rfl, HX0.out.trans hq⟩
 | true =>
 rw [i7] at HED
 have hed := editionW hB edition
 rw [i7] at hed
 obtain ⟨ed0, ed1⟩ := inB_iff.1 hed.symm
 obtain ⟨E, rfl⟩ : ∃ E : Nat, edition = (E : Int) := ⟨edition.toNat, by omega⟩
 have he : (E : Int) < b.editions := by omega
 have he3 := hB.e3
 obtain ⟨s, hs⟩ : ∃ s : Nat, x.editions = (s : Int) := by
  have h := i4
  unfold isBuyerB at h
  simp only [Bool.and_eq_true] at h
  have h1 := inB_iff.1 h.1.1
  exact ⟨x.editions.toNat, by omega⟩
 have hs8 : s ≤ 1000 := by
  have h := i4
  unfold isBuyerB at h
  simp only [Bool.and_eq_true] at h
  have h1 := inB_iff.1 h.1.1
  have h2 : (2 : Int) ^ b.editions.toNat ≤ 8 := by
   have := hB.e1
   rcases (by omega : b.editions.toNat = 1 ∨ b.editions.toNat = 2 ∨ b.editions.toNat = 3) with h | h | h <;> rw [h] <;> decide
  omega
 have HHS := Lib.hid (fun W1 (_ : Ext W W1) => (by rw [hs]; exact (rhas_any s E W1 (by omega) hs8).mono (R' := fun e w' => e = .returned (.bool (s.testBit E)) ∧ Ext W1 w') (fun _ _ q => ⟨q.1, q.2 ▸ Ext.refl _⟩) : Calls Tryz.prog 12 #[.int .i64 x.editions, .int .i64 (E : Int)] W1 fun e w' => e = .returned (.bool (s.testBit E)) ∧ Ext W1 w'))
 cases i8 : s.testBit E with
 | false =>
  rw [i8] at HHS
  clear i0 i2 i3 i4 i5 i6 i7 i8 hB ed0 ed1 hed he he3 hs hs8
  go_wp2_with (first | (go_at_call 5; refine (HSH.out _ hq).mono ?_; rintro e w' ⟨rfl, hx⟩; have hq := hq.trans hx; clear hx; clear c4 c5 m0 b0 b1 b2 b3; obtain ⟨c4, c5, m0, b0, b1, b2, b3⟩ := HF.out _ hq) | (go_at_call 6; refine (HSZ.out _ hq).mono ?_; rintro e w' ⟨rfl, hx⟩; have hq := hq.trans hx; clear hx; clear c4 c5 m0 b0 b1 b2 b3; obtain ⟨c4, c5, m0, b0, b1, b2, b3⟩ := HF.out _ hq) | (go_at_call 7; refine (HBK.out _ hq).mono ?_; rintro e w' ⟨rfl, hx⟩; have hq := hq.trans hx; clear hx; clear c4 c5 m0 b0 b1 b2 b3; obtain ⟨c4, c5, m0, b0, b1, b2, b3⟩ := HF.out _ hq) | (go_at_call 8; refine (HBU.out _ hq).mono ?_; rintro e w' ⟨rfl, hx⟩; have hq := hq.trans hx; clear hx; clear c4 c5 m0 b0 b1 b2 b3; obtain ⟨c4, c5, m0, b0, b1, b2, b3⟩ := HF.out _ hq) | (go_at_call 9; refine (HSD.out _ hq).mono ?_; rintro e w' ⟨rfl, hx⟩; have hq := hq.trans hx; clear hx; clear c4 c5 m0 b0 b1 b2 b3; obtain ⟨c4, c5, m0, b0, b1, b2, b3⟩ := HF.out _ hq) | (go_at_call 10; refine (HRF.out _ hq).mono ?_; rintro e w' ⟨rfl, hx⟩; have hq := hq.trans hx; clear hx; clear c4 c5 m0 b0 b1 b2 b3; obtain ⟨c4, c5, m0, b0, b1, b2, b3⟩ := HF.out _ hq) | (go_at_call 11; refine (HED.out _ hq).mono ?_; rintro e w' ⟨rfl, hx⟩; have hq := hq.trans hx; clear hx; clear c4 c5 m0 b0 b1 b2 b3; obtain ⟨c4, c5, m0, b0, b1, b2, b3⟩ := HF.out _ hq) | (go_at_call 12; refine (HHS.out _ hq).mono ?_; rintro e w' ⟨rfl, hx⟩; have hq := hq.trans hx; clear hx; clear c4 c5 m0 b0 b1 b2 b3; obtain ⟨c4, c5, m0, b0, b1, b2, b3⟩ := HF.out _ hq) | (go_at_call 13; refine (HKN.out _ hq).mono ?_; rintro e w' ⟨rfl, hx⟩; have hq := hq.trans hx; clear hx; clear c4 c5 m0 b0 b1 b2 b3; obtain ⟨c4, c5, m0, b0, b1, b2, b3⟩ := HF.out _ hq))
  go_ret
  exact ⟨rfl, HX0.out.trans hq⟩
 | true =>
 rw [i8] at HHS
 have hfit := fits_of i5 i6
 have htb : x.editions.toNat.testBit E = true := by rw [hs, Int.toNat_natCast]; exact i8
 have htl : E < t.length := by have := hfit.len; omega
 obtain ⟨tb, tq, l, sa, sc, rfl, hlE, d0, hli, _, _⟩ := HT3.out E htl
 have hgE : t.getD E [] = l := by rw [List.getD_eq_getElem?_getD, hlE.out]; rfl
 have hlp : l ∈ permsB b := by rw [← hgE]; exact page_perm (page_true hfit he)
 have HIN := Lib.hid (fun hT : trueB b x l = true => by have h := letters_in hfit he htb (by rw [hgE]; exact hT); rw [hgE] at h; exact h)
 have HTR := Lib.hid (fun W1 (h : Ext W W1) => rtrue_any _ _ _ b x l W1 (HBA.out W1 h) (HXA.out W1 h) (hli.ext (HX0.out.trans h)) i4 hlp)
 have HRE0 := Lib.hid (fun W1 (h : Ext W W1) => Reads_any _ _ b x W1 hB (HBA.out W1 h) (HXA.out W1 h))
 have HWH0 := Lib.hid (fun W1 (h : Ext W W1) => Which_any _ _ b x W1 hB (HBA.out W1 h) (HXA.out W1 h))
 have HWA0 := Lib.hid (fun W1 (h : Ext W W1) => Wants_any _ _ b x W1 hB (HBA.out W1 h) (HXA.out W1 h))
 have j1 : (E : Int) < (t.length : Int) := by omega
 have j2 : (0 : Int) ≤ (E : Int) := by omega
 replace HF := Lib.hid (fun W1 (h : Ext W W1) => And.intro ((HX0.out.trans h).cell d0) (HF.out W1 h))
 clear HT3 d0 ed0 ed1 hed i0 i2 i5 i6 i7 i8 he3 hs8 c4 c5 m0 b0 b1 b2 b3 hlE
 obtain ⟨a0, c4, c5, m0, b0, b1, b2, b3⟩ := HF.out _ hq
 rcases letErr_is i3 i4 hfit with ⟨hz, hn⟩ | ⟨hz, hn⟩
 rotate_left
 ·have hT : trueB b x l = false := by
   cases hT : trueB b x l with
   | false => rfl
   | true => have h := HIN.out hT; rw [hn] at h; simp at h
  rw [hT] at HTR
  have HRE := Lib.hid (fun W1 (h : Ext W W1) => (HRE0.out W1 h).mono (fun e w' q => reads_no (z := 7) (show ReadsRes b x W1 e w' from q) hz (by omega)))
  have HWH := Lib.hid (fun W1 (h : Ext W W1) => (HWH0.out W1 h).mono (fun e w' q => which_no (z := 7) (show WhichRes b x W1 e w' from q) hz (by omega)))
  have HWA := Lib.hid (fun W1 (h : Ext W W1) => (HWA0.out W1 h).mono (fun e w' q => wants_no (z := 7) (show WantsRes b x W1 e w' from q) hz (by omega)))
  clear HRE0 HWH0 HWA0 HIN hfit htb htl hgE hlp hT hz hn i3 i4 hB hs he hli hl1 hl2
  go_upto_region 8 with (first | (go_at_call 5; refine (HSH.out _ hq).mono ?_; rintro e w' ⟨rfl, hx⟩; have hq := hq.trans hx; clear hx; clear a0 c4 c5 m0 b0 b1 b2 b3; obtain ⟨a0, c4, c5, m0, b0, b1, b2, b3⟩ := HF.out _ hq) | (go_at_call 6; refine (HSZ.out _ hq).mono ?_; rintro e w' ⟨rfl, hx⟩; have hq := hq.trans hx; clear hx; clear a0 c4 c5 m0 b0 b1 b2 b3; obtain ⟨a0, c4, c5, m0, b0, b1, b2, b3⟩ := HF.out _ hq) | (go_at_call 7; refine (HBK.out _ hq).mono ?_; rintro e w' ⟨rfl, hx⟩; have hq := hq.trans hx; clear hx; clear a0 c4 c5 m0 b0 b1 b2 b3; obtain ⟨a0, c4, c5, m0, b0, b1, b2, b3⟩ := HF.out _ hq) | (go_at_call 8; refine (HBU.out _ hq).mono ?_; rintro e w' ⟨rfl, hx⟩; have hq := hq.trans hx; clear hx; clear a0 c4 c5 m0 b0 b1 b2 b3; obtain ⟨a0, c4, c5, m0, b0, b1, b2, b3⟩ := HF.out _ hq) | (go_at_call 9; refine (HSD.out _ hq).mono ?_; rintro e w' ⟨rfl, hx⟩; have hq := hq.trans hx; clear hx; clear a0 c4 c5 m0 b0 b1 b2 b3; obtain ⟨a0, c4, c5, m0, b0, b1, b2, b3⟩ := HF.out _ hq) | (go_at_call 10; refine (HRF.out _ hq).mono ?_; rintro e w' ⟨rfl, hx⟩; have hq := hq.trans hx; clear hx; clear a0 c4 c5 m0 b0 b1 b2 b3; obtain ⟨a0, c4, c5, m0, b0, b1, b2, b3⟩ := HF.out _ hq) | (go_at_call 11; refine (HED.out _ hq).mono ?_; rintro e w' ⟨rfl, hx⟩; have hq := hq.trans hx; clear hx; clear a0 c4 c5 m0 b0 b1 b2 b3; obtain ⟨a0, c4, c5, m0, b0, b1, b2, b3⟩ := HF.out _ hq) | (go_at_call 12; refine (HHS.out _ hq).mono ?_; rintro e w' ⟨rfl, hx⟩; have hq := hq.trans hx; clear hx; clear a0 c4 c5 m0 b0 b1 b2 b3; obtain ⟨a0, c4, c5, m0, b0, b1, b2, b3⟩ := HF.out _ hq) | (go_at_call 14; refine (HRE.out _ hq).mono ?_; rintro e w' ⟨rfl, hx⟩; have hq := hq.trans hx; clear hx; clear a0 c4 c5 m0 b0 b1 b2 b3; obtain ⟨a0, c4, c5, m0, b0, b1, b2, b3⟩ := HF.out _ hq) | (go_at_call 15; refine (HWH.out _ hq).mono ?_; rintro e w' ⟨rfl, hx⟩; have hq := hq.trans hx; clear hx; clear a0 c4 c5 m0 b0 b1 b2 b3; obtain ⟨a0, c4, c5, m0, b0, b1, b2, b3⟩ := HF.out _ hq) | (go_at_call 16; refine (HWA.out _ hq).mono ?_; rintro e w' ⟨rfl, hx⟩; have hq := hq.trans hx; clear hx; clear a0 c4 c5 m0 b0 b1 b2 b3; obtain ⟨a0, c4, c5, m0, b0, b1, b2, b3⟩ := HF.out _ hq))
  have HQ := Lib.hid hq
  replace HF := Lib.hid (fun W1 (h : Ext w' W1) => HF.out W1 (HQ.out.trans h))
  clear hq a0 c4 c5 m0 b0 b1 b2 b3
  refine region_reads (C := fun W1 => Ext w' W1) (by kernel_rfl) (by kernel_rfl) ((Ext.refl w').drew) ?_
  repeat (first | go_big_quiet_skip | (go_big_quiet_want; go_big_quiet_op; first | go_big_quiet_on | (refine ⟨_, fun W hW => rfl, ?_⟩; go_big_quiet_on)) | (go_big_quiet_want; refine ⟨?_, fun W hW => ?_, ?_⟩; rotate_left; (· (obtain ⟨a0, c4, c5, m0, b0, b1, b2, b3⟩ := HF.out W hW; go_simp; (first | with_reducible rfl | (go_at_call 17; refine (HTR.out W (HQ.out.trans hW)).mono ?_; rintro e w9 ⟨rfl, hx9⟩; constructor; with_reducible rfl; exact hW.trans hx9)))); (try simp only [Act.put, yA, yB, yC]); go_big_quiet_on))
  refine wpQuiet_nil ?_
  intro wq hq0
  have hq := hq0
  replace hq := HQ.out.trans hq
  obtain ⟨a0, c4, c5, m0, b0, b1, b2, b3⟩ := HF.out _ (hq0)
  go_wp2_with (go_at_call 13; refine (HKN.out _ hq).mono ?_; rintro e w8 ⟨rfl, hx8⟩)
  go_ret
  exact ⟨rfl, HX0.out.trans (hq.trans hx8)⟩
 have HRE := Lib.hid (fun W1 (h : Ext W W1) => (HRE0.out W1 h).mono (fun e w' q => reads_yes (show ReadsRes b x W1 e w' from q) hz))
 have HWH := Lib.hid (fun W1 (h : Ext W W1) => (HWH0.out W1 h).mono (fun e w' q => which_yes (show WhichRes b x W1 e w' from q) hz))
 have HWA := Lib.hid (fun W1 (h : Ext W W1) => (HWA0.out W1 h).mono (fun e w' q => wants_yes (show WantsRes b x W1 e w' from q) hz))
 have hask := let_ask hz i4
 have HMN0 := Lib.hid (fun (e : Int) (n : Int) (h1 : isEditionW b e = true) (h2 : isNumberB b n = true) W1 (h : Ext W W1) => (means_any _ b e n W1 (HBA.out W1 h)).mono (fun r w' q => nums_yes (f := true) (show NumsRes b true (meansB b e.toNat n) W1 r w' from by have q' := q; rw [h1, h2] at q'; exact q') hask))
 have g2 : decide (b.editions < ((whichB b x).length : Int)) = false := decide_eq_false (by have := which_len hB x; omega)
 have HWE := Lib.hid (fun (e : Int) (h : e ∈ whichB b x) => show isEditionW b e = true from by rw [editionW hB]; exact inB_iff.2 (by have := which_ed h; omega))
 have HGY := Lib.hid (fun (y : Letter) (h : y ∈ x.letters) => good_letter i4 h)
 have HGL := Lib.hid (fun (y : Letter) (h : y ∈ x.letters) => goods_len (HGY.out y h).1 (HGY.out y h).2.1 hn)
 have HLN := Lib.hid (perms_mem.1 hlp).1
 have hx4 := (buyer_len i4).2
 have hg5 := hB.g5
 obtain ⟨_, _, hve, _, _, ll3⟩ := hli.open
 cases hve
 have HLL := Lib.hid (fun k hk => ll3 k hk)
 have HLM := Lib.hid (fun z hz => (perms_mem.1 hlp).2.2 z hz)
 obtain ⟨TB, hTB⟩ : ∃ TB, trueB b x l = TB := ⟨_, rfl⟩
 rw [hTB] at HTR HIN
 clear HRE0 HWH0 HWA0 hfit htb htl hgE hlp hTB hz hn i3 i4 hB hs hli ll3 hask he HTA hl1 hl2
 go_upto_region 8 with (first | (go_at_call 5; refine (HSH.out _ hq).mono ?_; rintro e w' ⟨rfl, hx⟩; have hq := hq.trans hx; clear hx; clear a0 c4 c5 m0 b0 b1 b2 b3; obtain ⟨a0, c4, c5, m0, b0, b1, b2, b3⟩ := HF.out _ hq) | (go_at_call 6; refine (HSZ.out _ hq).mono ?_; rintro e w' ⟨rfl, hx⟩; have hq := hq.trans hx; clear hx; clear a0 c4 c5 m0 b0 b1 b2 b3; obtain ⟨a0, c4, c5, m0, b0, b1, b2, b3⟩ := HF.out _ hq) | (go_at_call 7; refine (HBK.out _ hq).mono ?_; rintro e w' ⟨rfl, hx⟩; have hq := hq.trans hx; clear hx; clear a0 c4 c5 m0 b0 b1 b2 b3; obtain ⟨a0, c4, c5, m0, b0, b1, b2, b3⟩ := HF.out _ hq) | (go_at_call 8; refine (HBU.out _ hq).mono ?_; rintro e w' ⟨rfl, hx⟩; have hq := hq.trans hx; clear hx; clear a0 c4 c5 m0 b0 b1 b2 b3; obtain ⟨a0, c4, c5, m0, b0, b1, b2, b3⟩ := HF.out _ hq) | (go_at_call 9; refine (HSD.out _ hq).mono ?_; rintro e w' ⟨rfl, hx⟩; have hq := hq.trans hx; clear hx; clear a0 c4 c5 m0 b0 b1 b2 b3; obtain ⟨a0, c4, c5, m0, b0, b1, b2, b3⟩ := HF.out _ hq) | (go_at_call 10; refine (HRF.out _ hq).mono ?_; rintro e w' ⟨rfl, hx⟩; have hq := hq.trans hx; clear hx; clear a0 c4 c5 m0 b0 b1 b2 b3; obtain ⟨a0, c4, c5, m0, b0, b1, b2, b3⟩ := HF.out _ hq) | (go_at_call 11; refine (HED.out _ hq).mono ?_; rintro e w' ⟨rfl, hx⟩; have hq := hq.trans hx; clear hx; clear a0 c4 c5 m0 b0 b1 b2 b3; obtain ⟨a0, c4, c5, m0, b0, b1, b2, b3⟩ := HF.out _ hq) | (go_at_call 12; refine (HHS.out _ hq).mono ?_; rintro e w' ⟨rfl, hx⟩; have hq := hq.trans hx; clear hx; clear a0 c4 c5 m0 b0 b1 b2 b3; obtain ⟨a0, c4, c5, m0, b0, b1, b2, b3⟩ := HF.out _ hq) | (go_at_call 14; refine (HRE.out _ hq).mono ?_; rintro e w1 ⟨u1, v1, rfl, hx, hu⟩; have HU1 := Lib.hid (fun W1 (h : Ext w1 W1) => hu.ext h); clear hu HRE; have hq := hq.trans hx; clear hx; clear a0 c4 c5 m0 b0 b1 b2 b3; obtain ⟨a0, c4, c5, m0, b0, b1, b2, b3⟩ := HF.out _ hq) | (go_at_call 15; refine (HWH.out _ hq).mono ?_; rintro e w2 ⟨u2, v2, rfl, hx, hu⟩; have HU2 := Lib.hid (fun W1 (h : Ext w2 W1) => hu.ext h); replace HU1 := Lib.hid (fun W1 (h : Ext w2 W1) => HU1.out W1 (hx.trans h)); clear hu HWH; have hq := hq.trans hx; clear hx; clear a0 c4 c5 m0 b0 b1 b2 b3; obtain ⟨a0, c4, c5, m0, b0, b1, b2, b3⟩ := HF.out _ hq) | (go_at_call 16; refine (HWA.out _ hq).mono ?_; rintro e w3 ⟨u3, v3, rfl, hx, hu⟩; have HU3 := Lib.hid (fun W1 (h : Ext w3 W1) => SpansAt.ext hu h); replace HU1 := Lib.hid (fun W1 (h : Ext w3 W1) => HU1.out W1 (hx.trans h)); replace HU2 := Lib.hid (fun W1 (h : Ext w3 W1) => HU2.out W1 (hx.trans h)); clear hu HWA; have hq := hq.trans hx; clear hx; clear a0 c4 c5 m0 b0 b1 b2 b3; obtain ⟨a0, c4, c5, m0, b0, b1, b2, b3⟩ := HF.out _ hq))
 obtain ⟨W9, rfl⟩ : ∃ W9 : World, W9 = w3 := ⟨_, rfl⟩
 have HQ := Lib.hid hq
 replace HF := Lib.hid (fun W1 (h : Ext W9 W1) => HF.out W1 (HQ.out.trans h))
 have hU := HU1.out W9 (Ext.refl _)
 obtain ⟨_, _, hve, _, _, h3⟩ := hU.open
 clear hU
 injection hve with hv1 hv2 hv3
 subst hv1 hv3
 have HR1 := Lib.hid (show ∀ k, k < x.letters.length → _ from fun k hk => h3 k (Nat.lt_of_lt_of_le hk (Nat.le_of_eq hv2)))
 clear h3 hv2
 have hU := HU2.out W9 (Ext.refl _)
 obtain ⟨_, _, hve, _, _, h3⟩ := hU.open
 clear hU
 cases hve
 have HW3 := Lib.hid h3
 clear h3
 obtain ⟨_, _, hve, _, _, h3⟩ := RowOf.open2 (f := spanC) (f0 := fun s => .int .i64 s.1) (f1 := fun s => .int .i64 s.2) (fun _ => rfl) (HU3.out W9 (Ext.refl _))
 injection hve with hv1 hv2 hv3
 subst hv1 hv3
 have HS3 := Lib.hid (show ∀ k, k < b.goods.length → _ from fun k hk => h3 k (Nat.lt_of_lt_of_le hk (Nat.le_of_eq hv2)))
 clear h3 hv2 HU1 HU3 hq a0 c4 c5 m0 b0 b1 b2 b3
 refine region_reads (C := fun W1 => Ext W9 W1) (by kernel_rfl) (by kernel_rfl) ((Ext.refl W9).drew) ?_
 repeat (first | go_big_quiet_skip | (go_big_quiet_want; go_big_quiet_op; first | go_big_quiet_on | (refine ⟨_, fun W hW => rfl, ?_⟩; go_big_quiet_on)) | (go_big_quiet_want; refine ⟨?_, fun W hW => ?_, ?_⟩; rotate_left; (· (obtain ⟨a0, c4, c5, m0, b0, b1, b2, b3⟩ := HF.out W hW; go_simp; (first | with_reducible rfl | (go_at_call 17; refine (HTR.out W (HQ.out.trans hW)).mono ?_; rintro e w9 ⟨rfl, hx9⟩; constructor; with_reducible rfl; exact hW.trans hx9)))); (try simp only [Act.put, yA, yB, yC]); go_big_quiet_on))
 refine wpQuiet_nil ?_
 intro wq hq
 clear HTR HBA HXA
 obtain ⟨a0, c4, c5, m0, b0, b1, b2, b3⟩ := HF.out _ hq
 have g1 : ((x.letters.length : Int) != (x.letters.length : Int)) = false := by simp
 have g3 : ((b.goods.length : Int) != (b.goods.length : Int)) = false := by simp
 go_wp2
 clear g1 g2 g3 a0 c4 c5 m0 b0 b1 b2 b3
 go_loopw [16] (fun i wr => ∃ k : Nat, k ≤ x.letters.length ∧ i = .int .i64 (k : Int) ∧ Ext W9 wr) (fun i _ => x.letters.length - (intOf i).toNat)
 case atStart => exact ⟨0, Nat.zero_le _, rfl, hq⟩
 case round =>
  obtain ⟨k, hk, rfl, hx⟩ := hrel
  obtain ⟨wk, rfl⟩ : ∃ wk : World, wk = wr := ⟨_, rfl⟩
  by_cases hlt : k < x.letters.length
  ·have x1 : decide ((k : Int) < (x.letters.length : Int)) = true := by simpa using hlt
   have k1 : (0 : Int) ≤ (k : Int) := by omega
   have k2 : (k : Int) < (x.letters.length : Int) := by omega
   obtain ⟨yb, yo, y, rfl, hyk, e0, _, _, _⟩ := HL3.out k hlt
   obtain ⟨rb, ro, L, ra2, rc2, rfl, hLk, d1, hLi, _, _⟩ := HR1.out k hlt
   have hye := List.mem_of_getElem? hyk.out
   have hLe : L = goodsB b x y := by
    have h := hLk.out
    unfold readingsB at h
    rw [List.getElem?_map, hyk.out] at h
    exact (Option.some.inj h).symm
   obtain ⟨hL1, hL2⟩ := HGL.out y hye
   rw [← hLe] at hL1 hL2
   have HCV : Hid (∀ v, v ∈ L → canTo b x y v (whichB b x).length = true) := fun v hv => canTo_all (by rw [← hLe]; exact hv)
   have hyn : isNumberB b y.1 = true := inB_iff.2 (by have := HGY.out y hye; omega)
   obtain ⟨_, _, hve, _, _, li3⟩ := hLi.open
   cases hve
   have HLI := Lib.hid li3
   have HQA := Lib.hid (fun W1 (h : Ext W9 W1) => And.intro ((HX0.out.trans (HQ.out.trans h)).cell e0) (And.intro (h.cell d1) (HF.out W1 h)))
   have g4 : decide ((L.length : Int) < 1) = false := decide_eq_false (by omega)
   have n4 : decide (L.length < 1) = false := decide_eq_false (by omega)
   have g5 : decide ((b.goods.length : Int) < (L.length : Int)) = false := decide_eq_false (by omega)
   have n5 : decide (b.goods.length < L.length) = false := decide_eq_false (by omega)
   clear e0 d1 hLe hLi li3 hyk hLk hL1 hL2 HIN HS3 HLL HLM HR1 HL3 HGL HGY hq
   go_upto_region 16 with fail
   refine region_reads (C := fun W1 => Ext W9 W1) (by kernel_rfl) (by kernel_rfl) (hx.drew) ?_
   repeat (first | go_big_quiet_skip | (go_big_quiet_want; go_big_quiet_op; first | go_big_quiet_on | (refine ⟨_, fun W hW => rfl, ?_⟩; go_big_quiet_on)) | (go_big_quiet_want; refine ⟨?_, fun W hW => ?_, ?_⟩; rotate_left; (· (obtain ⟨e0, d1, a0, c4, c5, m0, b0, b1, b2, b3⟩ := HQA.out W hW; go_simp; (first | with_reducible rfl))); (try simp only [Act.put, yA, yB, yC]); go_big_quiet_on))
   refine wpQuiet_nil ?_
   intro wq hq
   obtain ⟨e0, d1, a0, c4, c5, m0, b0, b1, b2, b3⟩ := HQA.out _ hq
   go_wp2
   clear g4 n4 g5 n5 e0 d1 a0 c4 c5 m0 b0 b1 b2 b3
   go_loopw [17] (fun j wr => ∃ m : Nat, m ≤ L.length ∧ j = .int .i64 (m : Int) ∧ Ext W9 wr) (fun j _ => L.length - (intOf j).toNat)
   case atStart => exact ⟨0, Nat.zero_le _, rfl, hq⟩
   case round =>
    obtain ⟨m, hm, rfl, hx2⟩ := hrel
    obtain ⟨wk2, rfl⟩ : ∃ wk2 : World, wk2 = wr := ⟨_, rfl⟩
    obtain ⟨e0, d1, a0, c4, c5, m0, b0, b1, b2, b3⟩ := HQA.out _ hx2
    by_cases hlm : m < L.length
    ·have x2 : decide ((m : Int) < (L.length : Int)) = true := by simpa using hlm
     have m1 : (0 : Int) ≤ (m : Int) := by omega
     have m2 : (m : Int) < (L.length : Int) := by omega
     obtain ⟨vb, vo, vv, rfl, hvm, f0⟩ := HLI.out m hlm
     have hcv := HCV.out vv (List.mem_of_getElem? hvm.out)
     have HQB := Lib.hid (fun W1 (h : Ext W9 W1) => And.intro (h.cell f0) (HQA.out W1 h))
     clear HLI HCV hvm f0
     go_wp2
     clear e0 d1 a0 c4 c5 m0 b0 b1 b2 b3
     go_loopw [18, 19] (fun c j wr => ∃ q : Nat, q ≤ (whichB b x).length ∧ j = .int .i64 (q : Int) ∧ c = .bool (canTo b x y vv q) ∧ Ext W9 wr) (fun _ j _ => (whichB b x).length - (intOf j).toNat)
     case atStart => exact ⟨0, Nat.zero_le _, rfl, by rw [canTo_zero], hx2⟩
     case round =>
      obtain ⟨q, hq1, rfl, rfl, hx3⟩ := hrel
      obtain ⟨wk3, rfl⟩ : ∃ wk3 : World, wk3 = wr := ⟨_, rfl⟩
      by_cases hlq : q < (whichB b x).length
      ·have x3 : decide ((q : Int) < ((whichB b x).length : Int)) = true := by simpa using hlq
       have q1 : (0 : Int) ≤ (q : Int) := by omega
       have q2 : (q : Int) < ((whichB b x).length : Int) := by omega
       obtain ⟨zb, zo, e, rfl, heq, h0⟩ := HW3.out q hlq
       have HMN := Lib.hid (fun W1 (h : Ext W9 W1) => HMN0.out e y.1 (HWE.out e (List.mem_of_getElem? heq.out)) hyn W1 (HQ.out.trans h))
       have HS5 := Lib.hid (fun W1 (h : Ext W9 W1) => And.intro (And.intro (HQA.out W1 h).2.2.2.2.1 (And.intro (HQA.out W1 h).1 (h.cell h0))) (HQA.out W1 h).2.2.2.2.2.2)
       have HSU := Lib.hid (canTo_succ heq.out y vv)
       have HXC := Lib.hid hx3
       clear HQA HWE HMN0 HW3 heq h0 hx3 hx2 hx hq hcv hyn hye
       go_upto_region 25 with fail
       refine wp_region_held_drew (S := (fun W' => (W'.cell? ⟨w.heap.size + 1, 1, none⟩ = some (.slice (some ⟨yb, yo, none⟩) x.letters.length lc) ∧ W'.cell? ⟨yb, yo + k * 4, none⟩ = some (.int .i64 y.1) ∧ W'.cell? ⟨zb, zo + q, none⟩ = some (.int .i64 e)) ∧ BoxAt W' w.heap.size (.slice ga b.goods.length gc) b (.slice ea b.entries.length ec))) (by kernel_rfl) ?_ (fun hHeld => ?_)
       ·exact HS5.out _ (Ext.trans HXC.out eS)
       refine hTk (i := 0) (d := some 187) (v := ?_) (fun o ho => ?_) hHeld ?_
       rotate_left
       ·simp only [zA, zB, zD] at ho
        subst ho
        refine ⟨by rfl, fun w hSw => ?_⟩
        obtain ⟨⟨c5, e0, g0⟩, b0, b1, b2, b3⟩ := hSw
        go_simp
        try with_reducible rfl
       try simp only [Act.put, yA, yB, yC]
       refine hTk (i := 1) (d := some 188) (v := ?_) (fun o ho => ?_) hHeld ?_
       rotate_left
       ·simp only [zA, zB, zC, zD] at ho
        subst ho
        refine ⟨by rfl, fun w hSw => ?_⟩
        (try dsimp only at hSw)
        go_simp
        try with_reducible rfl
       try simp only [Act.put, yA, yB, yC]
       refine hTk (i := 2) (d := some 189) (v := ?_) (fun o ho => ?_) hHeld ?_
       rotate_left
       ·simp only [zA, zB, zC, zD] at ho
        subst ho
        refine ⟨by rfl, fun w hSw => ?_⟩
        (try dsimp only at hSw)
        go_simp
        try with_reducible rfl
       try simp only [Act.put, yA, yB, yC]
       refine hTk (i := 3) (d := some 190) (v := ?_) (fun o ho => ?_) hHeld ?_
       rotate_left
       ·simp only [zA, zB, zC, zD] at ho
        subst ho
        refine ⟨by rfl, fun w hSw => ?_⟩
        (try dsimp only at hSw)
        go_simp
        try with_reducible rfl
       try simp only [Act.put, yA, yB, yC]
       refine hTk (i := 4) (d := some 191) (v := ?_) (fun o ho => ?_) hHeld ?_
       rotate_left
       ·simp only [zA, zB, zC, zD] at ho
        subst ho
        refine ⟨by rfl, fun w hSw => ?_⟩
        obtain ⟨⟨c5, e0, g0⟩, b0, b1, b2, b3⟩ := hSw
        go_simp
        try with_reducible rfl
       try simp only [Act.put, yA, yB, yC]
       refine hTk (i := 5) (d := some 192) (v := ?_) (fun o ho => ?_) hHeld ?_
       rotate_left
       ·simp only [zA, zB, zC, zD] at ho
        subst ho
        refine ⟨by rfl, fun w hSw => ?_⟩
        (try dsimp only at hSw)
        go_simp
        try with_reducible rfl
       try simp only [Act.put, yA, yB, yC]
       refine hTk (i := 6) (d := some 193) (v := ?_) (fun o ho => ?_) hHeld ?_
       rotate_left
       ·simp only [zA, zB, zC, zD] at ho
        subst ho
        refine ⟨by rfl, fun w hSw => ?_⟩
        obtain ⟨⟨c5, e0, g0⟩, b0, b1, b2, b3⟩ := hSw
        go_simp
        try with_reducible rfl
       try simp only [Act.put, yA, yB, yC]
       refine hTk (i := 7) (d := some 194) (v := ?_) (fun o ho => ?_) hHeld ?_
       rotate_left
       ·simp only [zA, zB, zC, zD] at ho
        subst ho
        refine ⟨by rfl, fun w hSw => ?_⟩
        (try dsimp only at hSw)
        go_simp
        try with_reducible rfl
       try simp only [Act.put, yA, yB, yC]
       refine hTk (i := 8) (d := some 195) (v := ?_) (fun o ho => ?_) hHeld ?_
       rotate_left
       ·simp only [zA, zB, zC, zD] at ho
        subst ho
        refine ⟨by rfl, fun w hSw => ?_⟩
        (try dsimp only at hSw)
        go_simp
        try with_reducible rfl
       try simp only [Act.put, yA, yB, yC]
       refine hTk (i := 9) (d := some 196) (v := ?_) (fun o ho => ?_) hHeld ?_
       rotate_left
       ·simp only [zA, zB, zC, zD] at ho
        subst ho
        refine ⟨by rfl, fun w hSw => ?_⟩
        (try dsimp only at hSw)
        go_simp
        try with_reducible rfl
       try simp only [Act.put, yA, yB, yC]
       refine hTk (i := 10) (d := some 197) (v := ?_) (fun o ho => ?_) hHeld ?_
       rotate_left
       ·simp only [zA, zB, zC, zD] at ho
        subst ho
        refine ⟨by rfl, fun w hSw => ?_⟩
        obtain ⟨⟨c5, e0, g0⟩, b0, b1, b2, b3⟩ := hSw
        go_simp
        try with_reducible rfl
       try simp only [Act.put, yA, yB, yC]
       refine wpAnyH_ready (rs := [11]) (by kernel_rfl) (by simp) ?_
       refine held_step (i := 11) (by kernel_rfl) (fun o ho K' hK => ?_) ?_
       ·simp only [zA, zB, zC, zD] at ho
        subst ho
        go_simp
        go_at_call 18
        refine (HMN.out _ (Ext.trans HXC.out eS)).mono ?_
        rintro r w5 ⟨ma, mc, rfl, hz5, hu5⟩
        have hy5 : Ext W9 w5 := Ext.trans (Ext.trans HXC.out eS) hz5
        clear hz5
        try go_simp
        refine hK.out _ _ ?_ (fun hHeld => ?_)
        ·exact HS5.out _ (hy5)
        clear hK K'
        try simp only [yA, yB, yC]
        refine hTk (i := 12) (d := some 186) (v := ?_) (fun o ho => ?_) hHeld ?_
        rotate_left
        ·simp only [zA, zB, zC, zD] at ho
         subst ho
         refine ⟨by rfl, fun w hSw => ?_⟩
         (try dsimp only at hSw)
         go_simp
         try with_reducible rfl
        try simp only [Act.put, yA, yB, yC]
        refine hTk (i := 13) (d := some 199) (v := ?_) (fun o ho => ?_) hHeld ?_
        rotate_left
        ·simp only [zA, zB, zC, zD] at ho
         subst ho
         refine ⟨by rfl, fun w hSw => ?_⟩
         (try dsimp only at hSw)
         go_simp
         try with_reducible rfl
        try simp only [Act.put, yA, yB, yC]
        refine hTk (i := 14) (d := some 200) (v := ?_) (fun o ho => ?_) hHeld ?_
        rotate_left
        ·simp only [zA, zB, zC, zD] at ho
         subst ho
         refine ⟨by rfl, fun w hSw => ?_⟩
         (try dsimp only at hSw)
         go_simp
         try with_reducible rfl
        try simp only [Act.put, yA, yB, yC]
        refine wpAnyH_ready (rs := [15]) (by kernel_rfl) (by simp) ?_
        refine held_step (i := 15) (by kernel_rfl) (fun o ho K' hK => ?_) ?_
        ·simp only [zA, zB, zC, zD] at ho
         subst ho
         go_simp
         refine hK.out _ _ ?_ (fun hHeld => ?_)
         ·exact HS5.out _ (Ext.trans hy5 eS)
         clear hK K'
         try simp only [yA, yB, yC]
         refine wpAnyH_ready (rs := [16]) (by kernel_rfl) (by simp) ?_
         refine held_step (i := 16) (by kernel_rfl) (fun o ho K' hK => ?_) ?_
         ·simp only [zA, zB, zC, zD] at ho
          subst ho
          go_simp
          refine hK.out _ _ ?_ (fun hHeld => ?_)
          ·exact HS5.out _ (Ext.trans hy5 eS)
          clear hK K'
          try simp only [yA, yB, yC]
          refine wpAnyH_done (by kernel_rfl) ?_ _
          try simp only [yA, yB, yC]
          clear hHeld
          have hq := Ext.trans hy5 eS
          obtain ⟨f0, e0, d1, a0, c4, c5, m0, b0, b1, b2, b3⟩ := HQB.out _ hq
          have HLS := Lib.hid (fun W1 (h : Ext w5 W1) => llisted_any _ _ vv W1 (hu5.ext h))
          cases hc : canTo b x y vv q with
          | true =>
           rw [hc, Bool.true_or] at HSU
           clear hc
           go_wp2
           exact ⟨⟨q + 1, by omega, by go_num, by rw [HSU.out], hq⟩, by simp [intOf]; omega⟩
          | false =>
           rw [hc, Bool.false_or] at HSU
           clear hc
           go_wp2_with (go_at_call 19; refine (HLS.out _ eS).mono ?_; rintro e6 w6 ⟨rfl, rfl⟩)
           exact ⟨⟨q + 1, by omega, by go_num, by rw [HSU.out], hq⟩, by simp [intOf]; omega⟩
         exact AllReadyH.nil
        exact AllReadyH.nil
       exact AllReadyH.nil
      ·obtain rfl : q = (whichB b x).length := by omega
       have x3 : decide (((whichB b x).length : Int) < ((whichB b x).length : Int)) = false := by simp
       have n3 : decide ((whichB b x).length < (whichB b x).length) = false := by simp
       rw [hcv]
       clear hcv hlq
       go_wp2
       exact ⟨⟨m + 1, by omega, by go_num, hx3⟩, by simp [intOf]; omega⟩
    ·have x2 : decide ((m : Int) < (L.length : Int)) = false := by simpa using hlm
     have n2 : decide (m < L.length) = false := by simpa using hlm
     go_wp2
     exact ⟨⟨k + 1, by omega, by go_num, hx2⟩, by simp [intOf]; omega⟩
  ·have x1 : decide ((k : Int) < (x.letters.length : Int)) = false := by simpa using hlt
   have n1 : decide (k < x.letters.length) = false := by simpa using hlt
   clear hq HGL HMN0
   cases TB with
   | false =>
    go_wp2_with (go_at_call 13; refine (HKN.out _ (HQ.out.trans hx)).mono ?_; rintro e w8 ⟨rfl, hx8⟩)
    go_ret
    exact ⟨rfl, HX0.out.trans ((HQ.out.trans hx).trans hx8)⟩
   | true =>
   replace HIN := Lib.hid (HIN.out rfl)
   go_wp2
   clear x1 n1 hlt hk
   go_loopw [22] (fun i wr => ∃ k : Nat, k ≤ x.letters.length ∧ i = .int .i64 (k : Int) ∧ Ext W9 wr) (fun i _ => x.letters.length - (intOf i).toNat)
   case atStart => exact ⟨0, Nat.zero_le _, rfl, hx⟩
   case round =>
    clear hx wk
    obtain ⟨k2, hk2, rfl, hx⟩ := hrel
    obtain ⟨wk, rfl⟩ : ∃ wk : World, wk = wr := ⟨_, rfl⟩
    by_cases hlt : k2 < x.letters.length
    ·have x1 : decide ((k2 : Int) < (x.letters.length : Int)) = true := by simpa using hlt
     have k1 : (0 : Int) ≤ (k2 : Int) := by omega
     have k2' : (k2 : Int) < (x.letters.length : Int) := by omega
     obtain ⟨yb, yo, y, rfl, hyk, e0, _, _, _⟩ := HL3.out k2 hlt
     obtain ⟨rb, ro, L, ra2, rc2, rfl, hLk, d1, hLi, _, _⟩ := HR1.out k2 hlt
     have hye := List.mem_of_getElem? hyk.out
     have hLe : L = goodsB b x y := by
      have h := hLk.out
      unfold readingsB at h
      rw [List.getElem?_map, hyk.out] at h
      exact (Option.some.inj h).symm
     have hyb := HGY.out y hye
     obtain ⟨N, hN⟩ : ∃ N : Nat, y.1 = N := ⟨y.1.toNat, by omega⟩
     obtain ⟨lb, lo, z, rfl, hz, f0⟩ := HLL.out N (by have := HLN.out; omega)
     have hzL : listedB L z = true := listed_mem.2 (by
      rw [hLe]; refine goods_mem.2 ⟨_, HIN.out, ?_⟩
      show l.getD y.1.toNat 0 = z
      rw [hN, Int.toNat_natCast, List.getD_eq_getElem?_getD, hz.out]; rfl)
     have HLS := Lib.hid (fun W1 (h : Ext W9 W1) => (llisted_any _ L z W1 (hLi.ext h)).mono (R' := fun e w9 => e = .returned (.bool true) ∧ W1 = w9) (fun _ _ q => ⟨by rw [q.1, hzL], q.2⟩))
     rw [hN] at e0
     have n1 : (0 : Int) ≤ (N : Int) := by omega
     have n2 : (N : Int) < (l.length : Int) := by have := HLN.out; omega
     have HQD := Lib.hid (fun W1 (h : Ext W9 W1) => And.intro ((HX0.out.trans (HQ.out.trans h)).cell e0) (And.intro (h.cell d1) (And.intro ((HX0.out.trans (HQ.out.trans h)).cell f0) (HF.out W1 h))))
     clear e0 d1 f0 hLe hLi hyk hLk hyb hN hz hzL HIN HS3 HLL HLM HR1 HL3 HGY HW3 HWE
     go_upto_region 34 with fail
     refine region_reads (C := fun W1 => Ext W9 W1) (by kernel_rfl) (by kernel_rfl) (hx.drew) ?_
     repeat (first | go_big_quiet_skip | (go_big_quiet_want; go_big_quiet_op; first | go_big_quiet_on | (refine ⟨_, fun W hW => rfl, ?_⟩; go_big_quiet_on)) | (go_big_quiet_want; refine ⟨?_, fun W hW => ?_, ?_⟩; rotate_left; (· (obtain ⟨e0, d1, f0, a0, c4, c5, m0, b0, b1, b2, b3⟩ := HQD.out W hW; go_simp; (first | with_reducible rfl | (go_at_call 19; refine (HLS.out W hW).mono ?_; rintro e w9 ⟨rfl, rfl⟩; constructor; with_reducible rfl; exact hW)))); (try simp only [Act.put, yA, yB, yC]); go_big_quiet_on))
     refine wpQuiet_nil ?_
     intro wq hq
     clear hye HLS HQD HLN
     go_wp2
     exact ⟨⟨k2 + 1, by omega, by go_num, hq⟩, by simp [intOf]; omega⟩
    ·have x1 : decide ((k2 : Int) < (x.letters.length : Int)) = false := by simpa using hlt
     have n1 : decide (k2 < x.letters.length) = false := by simpa using hlt
     go_wp2
     clear x1 n1 hlt hk2 HR1
     go_loopw [23] (fun i wr => ∃ g : Nat, g ≤ b.goods.length ∧ i = .int .i64 (g : Int) ∧ Ext W9 wr) (fun i _ => b.goods.length - (intOf i).toNat)
     case atStart => exact ⟨0, Nat.zero_le _, rfl, hx⟩
     case round =>
      clear hx wk
      obtain ⟨g, hg, rfl, hx⟩ := hrel
      obtain ⟨wk, rfl⟩ : ∃ wk : World, wk = wr := ⟨_, rfl⟩
      by_cases hlg : g < b.goods.length
      ·have x1 : decide ((g : Int) < (b.goods.length : Int)) = true := by simpa using hlg
       have k1 : (0 : Int) ≤ (g : Int) := by omega
       have k2' : (g : Int) < (b.goods.length : Int) := by omega
       obtain ⟨pb, po, sp, rfl, hsp, p0, p1⟩ := HS3.out g hlg
       have hsw := wants_in HIN.out hlg
       obtain ⟨sp', hsp', hs1, hs2⟩ := hsw
       rw [hsp.out] at hsp'
       cases hsp'
       have HBD := Lib.hid (wantTo_bd (ys := x.letters) (fun y hy => by have := HGY.out y hy; omega) l g)
       have HQE := Lib.hid (fun W1 (h : Ext W9 W1) => And.intro (h.cell p0) (And.intro (h.cell p1) (HF.out W1 h)))
       clear p0 p1 hsp HS3 HIN HW3 HWE
       go_wp2
       go_loopw [24, 25] (fun nv j wr => ∃ i : Nat, i ≤ x.letters.length ∧ j = .int .i64 (i : Int) ∧ nv = .int .i64 (wantTo x.letters l i g) ∧ Ext W9 wr) (fun _ j _ => x.letters.length - (intOf j).toNat)
       case atStart => exact ⟨0, Nat.zero_le _, rfl, by simp [wantTo], hx⟩
       case round =>
        clear hx wk
        obtain ⟨i, hi, rfl, rfl, hx⟩ := hrel
        obtain ⟨wk, rfl⟩ : ∃ wk : World, wk = wr := ⟨_, rfl⟩
        obtain ⟨a0, c4, c5, m0, b0, b1, b2, b3⟩ := HF.out _ hx
        have hb1 := HBD.out i
        obtain ⟨nw, hnw⟩ : ∃ nw, wantTo x.letters l i g = nw := ⟨_, rfl⟩
        rw [hnw] at hb1 ⊢
        by_cases hlt : i < x.letters.length
        ·have x2 : decide ((i : Int) < (x.letters.length : Int)) = true := by simpa using hlt
         have i1 : (0 : Int) ≤ (i : Int) := by omega
         have i2 : (i : Int) < (x.letters.length : Int) := by omega
         obtain ⟨yb, yo, y, rfl, hyk, e0, _, _, e3⟩ := HL3.out i hlt
         have hyb := HGY.out y (List.mem_of_getElem? hyk.out)
         have hws := wantTo_succ (l := l) hyk.out (g : Int)
         obtain ⟨N, hN⟩ : ∃ N : Nat, y.1 = N := ⟨y.1.toNat, by omega⟩
         obtain ⟨lb, lo, z, rfl, hz, f0⟩ := HLL.out N (by have := HLN.out; omega)
         rw [hnw, show l.getD y.1.toNat 0 = z by rw [hN, Int.toNat_natCast, List.getD_eq_getElem?_getD, hz.out]; rfl] at hws
         rw [hN] at e0
         have n1 : (0 : Int) ≤ (N : Int) := by omega
         have n2 : (N : Int) < (l.length : Int) := by have := HLN.out; omega
         obtain ⟨my, hmy⟩ : ∃ my, y.2.2.2 = my := ⟨_, rfl⟩
         rw [hmy] at e3 hws hyb
         have HQF := Lib.hid (fun W1 (h : Ext W9 W1) => And.intro ((HX0.out.trans (HQ.out.trans h)).cell e0) (And.intro ((HX0.out.trans (HQ.out.trans h)).cell e3) (And.intro ((HX0.out.trans (HQ.out.trans h)).cell f0) (HF.out W1 h))))
         have HWS := Lib.hid hws
         have j3 : IntKind.i64.wrap (nw + my) = nw + my := IntWalk.i64_in _ (by omega)
         clear e0 e3 f0 hyk hN hz hws HLL HL3 HBD HQE hmy
         go_upto_region 43 with fail
         clear a0 c4 c5 m0 b0 b1 b2 b3
         refine region_reads (C := fun W1 => Ext W9 W1) (by kernel_rfl) (by kernel_rfl) (hx.drew) ?_
         repeat (first | go_big_quiet_skip | (go_big_quiet_want; go_big_quiet_op; first | go_big_quiet_on | (refine ⟨_, fun W hW => rfl, ?_⟩; go_big_quiet_on)) | (go_big_quiet_want; refine ⟨?_, fun W hW => ?_, ?_⟩; rotate_left; (· (obtain ⟨e0, e3, f0, a0, c4, c5, m0, b0, b1, b2, b3⟩ := HQF.out W hW; go_simp; (first | with_reducible rfl))); (try simp only [Act.put, yA, yB, yC]); go_big_quiet_on))
         refine wpQuiet_nil ?_
         intro wq hq
         obtain ⟨e0, e3, f0, a0, c4, c5, m0, b0, b1, b2, b3⟩ := HQF.out _ hq
         by_cases hzg : z = (g : Int)
         ·have HW1 := HWS.out
          rw [if_pos hzg] at HW1
          have x3 : (z == (g : Int)) = true := by simpa using hzg
          have x4 : decide (z = (g : Int)) = true := by simpa using hzg
          clear hzg HWS
          go_wp2
          exact ⟨⟨i + 1, by omega, by go_num, by rw [HW1], hq⟩, by simp [intOf]; omega⟩
         ·have HW1 := HWS.out
          rw [if_neg hzg, Int.add_zero] at HW1
          have x3 : (z == (g : Int)) = false := by simpa using hzg
          have x4 : decide (z = (g : Int)) = false := by simpa using hzg
          clear hzg HWS
          go_wp2
          exact ⟨⟨i + 1, by omega, by go_num, by rw [HW1], hq⟩, by simp [intOf]; omega⟩
        ·obtain rfl : i = x.letters.length := by omega
         rw [hnw] at hs1 hs2
         have x2 : decide ((x.letters.length : Int) < (x.letters.length : Int)) = false := by simp
         have n2 : decide (x.letters.length < x.letters.length) = false := by simp
         have g6 : decide (nw < sp.1) = false := decide_eq_false (by omega)
         have g7 : decide (sp.2 < nw) = false := decide_eq_false (by omega)
         obtain ⟨p0, p1, _⟩ := HQE.out _ hx
         clear hlt HBD hnw HQE hs1 hs2
         go_wp2
         exact ⟨⟨g + 1, by omega, by go_num, hx⟩, by simp [intOf]; omega⟩
      ·have x1 : decide ((g : Int) < (b.goods.length : Int)) = false := by simpa using hlg
       have n1 : decide (g < b.goods.length) = false := by simpa using hlg
       have HLW := Lib.hid (fun W1 (h : Ext W9 W1) => (llisted_any _ (whichB b x) (E : Int) W1 (HU2.out W1 h)).mono (R' := fun e w9 => e = .returned (.bool true) ∧ W1 = w9) (fun _ _ q => ⟨by rw [q.1, listed_mem.2 (which_mem.2 ⟨_, HIN.out, rfl⟩)], q.2⟩))
       go_wp2_with (first
        | (go_at_call 19; refine (HLW.out _ hx).mono ?_; rintro e w9 ⟨rfl, rfl⟩; clear HLW)
        | (go_at_call 13; refine (HKN.out _ (HQ.out.trans hx)).mono ?_; rintro e w8 ⟨rfl, hx8⟩))
       go_ret
       exact ⟨rfl, HX0.out.trans ((HQ.out.trans hx).trans hx8)⟩
end Go.Proofs.YtokananogogjaaaGreatDoor
