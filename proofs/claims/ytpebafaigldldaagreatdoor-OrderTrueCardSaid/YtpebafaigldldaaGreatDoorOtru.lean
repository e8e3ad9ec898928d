/- OrderTrue: the theorem of meanings. -/
import Derived.Test.YtpebafaigldldaaGreatDoorOkn
import Derived.Test.YtpebafaigldldaaGreatDoorRsz
import Derived.Test.YtpebafaigldldaaGreatDoorOql
namespace Go.Proofs.YtpebafaigldldaaGreatDoor
open Go.RowKit
theorem nums_none {b : Book} {l : List Int} {w w' : World} {e : Ending} (h : NumsRes b true l w e w') (hz : askErr b true = 7) : e = .returned (.tuple #[.slice none 0 0, .int .i64 7]) ∧ Ext w w' := by
 rcases h.2 with ⟨_, r⟩ | ⟨r, _⟩
 ·exact ⟨by rw [r, hz], h.1⟩
 ·omega
theorem nums_some {b : Book} {l : List Int} {w w' : World} {e : Ending} (h : NumsRes b true l w e w') (hz : askErr b true = 0) : ∃ a c, e = .returned (.tuple #[.slice a l.length c, .int .i64 0]) ∧ IntsAt w' (.slice a l.length c) l ∧ Ext w w' := by
 rcases h.2 with ⟨r, _⟩ | ⟨_, u, h1, h2⟩
 ·exact absurd hz r
 ·obtain ⟨a, c, rfl, _⟩ := h2.open
  exact ⟨a, c, h1, h2, h.1⟩
theorem truths_none {b : Book} {w w' : World} {e : Ending} (h : TruthsRes b w e w') (hz : askErr b true = 7) : e = .returned (.tuple #[.int .i64 0, .int .i64 7]) ∧ Ext w w' := by
 rcases h.2 with ⟨_, r⟩ | ⟨r, _⟩
 ·exact ⟨by rw [r, hz], h.1⟩
 ·omega
theorem truths_some {b : Book} {w w' : World} {e : Ending} (h : TruthsRes b w e w') (hz : askErr b true = 0) : e = .returned (.tuple #[.int .i64 (truthsB b), .int .i64 0]) ∧ Ext w w' := by
 rcases h.2 with ⟨r, _⟩ | ⟨_, r⟩
 ·exact absurd hz r
 ·exact ⟨r, h.1⟩
theorem page_some {b : Book} (h1 : isBookB b = true) (hz : askErr b true = 0) : 0 < truthsB b := by
 refine truths_pos fun hp => ?_
 unfold askErr at hz
 rw [h1, hp] at hz
 cases hz
theorem means_pos {b : Book} {e : Nat} (he : (e : Int) < b.editions) (n : Int) (h : 0 < truthsB b) : 1 ≤ (meansB b e n).length := by
 have hne : pageB b e ≠ [] := fun hp => by
  have := truths_at he
  rw [hp] at this
  simp at this
  omega
 obtain ⟨l, hl⟩ := List.exists_mem_of_ne_nil _ hne
 exact List.length_pos_of_mem (means_mem.2 ⟨l, hl, rfl⟩)
theorem listed_mem {l : List Int} {n : Int} : listedB l n = true ↔ n ∈ l := by
 unfold listedB
 rw [List.any_eq_true]
 constructor
 ·rintro ⟨x, hx, e⟩; rw [← beq_iff_eq.1 e]; exact hx
 ·exact fun h => ⟨n, h, by simp⟩
theorem no_fits {b : Book} {t : List (List Int)} (h1 : isBookB b = true) (h2 : isMeansB b t = true) (hz : askErr b true = 7) : fitsB b t = false := by
 cases hf : fitsB b t with
 | false => rfl
 | true =>
  have hp : pageB b 0 = [] := by
   unfold askErr at hz
   rw [h1] at hz
   simp only [Bool.and_self, if_true] at hz
   by_cases hp : (pageB b 0).isEmpty = true
   ·exact List.isEmpty_iff.1 hp
   ·rw [if_neg hp] at hz; cases hz
  have hm := page_true (fits_of h2 hf) (e := 0) (by have := (bookB_of h1).e1; omega)
  rw [hp] at hm
  cases hm
set_option maxRecDepth 100000 in
set_option maxHeartbeats 16000000 in
theorem orderTrue_any (v : Value) (b : Book) (tv : Value) (t : List (List Int)) (edition number good : Int) (w : World) (hb : BookAt w v b) (htt : TruthAt w tv t) (ht : TabOk w) (hm : MaxOk w) :
  Calls Tryz.prog 12 #[v, tv, .int .i64 edition, .int .i64 number, .int .i64 good] w fun e w' => e = .returned (.bool true) ∧ Ext w w' := by
 have hb0 := hb
 obtain ⟨rv, rfl, hr⟩ := htt
 obtain ⟨ga, gc, ea, ec, rfl, hgl, hel⟩ := hb.open
 obtain ⟨ra, rc, rfl, r1, r2, r3⟩ := hr.open
 obtain ⟨W, HW⟩ : ∃ W, Hid (W = (w.alloc (bookBox (.slice ga b.goods.length gc) b (.slice ea b.entries.length ec))).alloc (.cells #[.slice ra t.length rc] 86)) := ⟨_, rfl⟩
 have HX0 := Lib.hid (show Ext w W by rw [HW.out]; exact ((Ext.refl w).alloc _).alloc _)
 have HF := Lib.hid (fun W1 (h : Ext W W1) => (And.intro (h.cell (show W.cell? ⟨w.heap.size + 1, 0, none⟩ = some (.slice ra t.length rc) by rw [HW.out]; go_simp)) (BoxAt.ext (show BoxAt W w.heap.size (.slice ga b.goods.length gc) b (.slice ea b.entries.length ec) by rw [HW.out]; exact (BoxAt.new _ _ _ _).ext ((Ext.refl _).alloc _)) h)))
 have HKN := Lib.hid (fun W1 (h : Ext W W1) => lknown_any W1 (ht.ext (HX0.out.trans h)) (hm.ext (HX0.out.trans h)))
 have HBA := Lib.hid (fun W1 (h : Ext W W1) => hb.ext (HX0.out.trans h))
 have HTA := Lib.hid (fun W1 (h : Ext W W1) => (show TruthAt W1 (.agg #[.slice ra t.length rc]) t from ⟨_, rfl, hr.ext (HX0.out.trans h)⟩))
 have HSH := Lib.hid (fun W1 (h : Ext W W1) => short_any _ b W1 (HBA.out W1 h))
 have HSZ := Lib.hid (fun W1 (h : Ext W W1) => (sized_any _ t W1 (hr.ext (HX0.out.trans h))).mono (R' := fun e w' => e = .returned (.bool (sizedB t)) ∧ Ext W1 w') (fun _ _ q => ⟨q.1, q.2 ▸ Ext.refl _⟩))
 have HBK := Lib.hid (fun W1 (h : Ext W W1) => rbook_any _ b W1 (HBA.out W1 h))
 have HTS := Lib.hid (fun W1 (h : Ext W W1) => rsized_any _ _ b t W1 (HBA.out W1 h) (HTA.out W1 h))
 have HED := Lib.hid (fun W1 (_ : Ext W W1) => redition_any ga ea b.goods.length gc b.entries.length ec b edition W1)
 have HGN := Lib.hid (fun W1 (_ : Ext W W1) => rgood_any ga ea gc b.entries.length ec b number W1 hgl)
 have HGG := Lib.hid (fun W1 (_ : Ext W W1) => rgood_any ga ea gc b.entries.length ec b good W1 hgl)
 have HR3 := Lib.hid r3
 clear hb hb0 hr ht hm r3
 go_enter Tryz.func12, Tryz.ntmps12
 go_upto_region 1 with fail
 rw [← HW.out]
 have hxc := Ext.refl W
 obtain ⟨m0, b0, b1, b2, b3⟩ := HF.out _ hxc
 cases i0 : shortB b with
 | false =>
  rw [i0] at HSH
  clear i0
  go_wp2_with (first | (go_at_call 14; refine (HSH.out _ hxc).mono ?_; rintro e w' ⟨rfl, hxs⟩; have hxc := hxc.trans hxs; clear hxs HSH; obtain ⟨m0, b0, b1, b2, b3⟩ := HF.out _ hxc) | (go_at_call 15; refine (HKN.out _ hxc).mono ?_; rintro e w' ⟨rfl, hxs⟩; have hxc := hxc.trans hxs))
  go_ret
  exact ⟨rfl, HX0.out.trans hxc⟩
 | true =>
 rw [i0] at HSH
 cases i1 : sizedB t with
 | false =>
  rw [i1] at HSZ
  clear i0 i1
  go_wp2_with (first | (go_at_call 14; refine (HSH.out _ hxc).mono ?_; rintro e w' ⟨rfl, hxs⟩; have hxc := hxc.trans hxs; clear hxs HSH; obtain ⟨m0, b0, b1, b2, b3⟩ := HF.out _ hxc) | (go_at_call 42; refine (HSZ.out _ hxc).mono ?_; rintro e w' ⟨rfl, hxs⟩; have hxc := hxc.trans hxs; clear hxs HSZ; obtain ⟨m0, b0, b1, b2, b3⟩ := HF.out _ hxc) | (go_at_call 15; refine (HKN.out _ hxc).mono ?_; rintro e w' ⟨rfl, hxs⟩; have hxc := hxc.trans hxs))
  go_ret
  exact ⟨rfl, HX0.out.trans hxc⟩
 | true =>
 rw [i1] at HSZ
 cases i2 : isBookB b with
 | false =>
  rw [i2] at HBK
  clear i0 i1 i2
  go_wp2_with (first | (go_at_call 14; refine (HSH.out _ hxc).mono ?_; rintro e w' ⟨rfl, hxs⟩; have hxc := hxc.trans hxs; clear hxs HSH; obtain ⟨m0, b0, b1, b2, b3⟩ := HF.out _ hxc) | (go_at_call 42; refine (HSZ.out _ hxc).mono ?_; rintro e w' ⟨rfl, hxs⟩; have hxc := hxc.trans hxs; clear hxs HSZ; obtain ⟨m0, b0, b1, b2, b3⟩ := HF.out _ hxc) | (go_at_call 21; refine (HBK.out _ hxc).mono ?_; rintro e w' ⟨rfl, hxs⟩; have hxc := hxc.trans hxs; clear hxs HBK; obtain ⟨m0, b0, b1, b2, b3⟩ := HF.out _ hxc) | (go_at_call 15; refine (HKN.out _ hxc).mono ?_; rintro e w' ⟨rfl, hxs⟩; have hxc := hxc.trans hxs))
  go_ret
  exact ⟨rfl, HX0.out.trans hxc⟩
 | true =>
 rw [i2] at HBK
 cases i3 : isMeansB b t with
 | false =>
  rw [i3] at HTS
  clear i0 i1 i2 i3
  go_wp2_with (first | (go_at_call 14; refine (HSH.out _ hxc).mono ?_; rintro e w' ⟨rfl, hxs⟩; have hxc := hxc.trans hxs; clear hxs HSH; obtain ⟨m0, b0, b1, b2, b3⟩ := HF.out _ hxc) | (go_at_call 42; refine (HSZ.out _ hxc).mono ?_; rintro e w' ⟨rfl, hxs⟩; have hxc := hxc.trans hxs; clear hxs HSZ; obtain ⟨m0, b0, b1, b2, b3⟩ := HF.out _ hxc) | (go_at_call 21; refine (HBK.out _ hxc).mono ?_; rintro e w' ⟨rfl, hxs⟩; have hxc := hxc.trans hxs; clear hxs HBK; obtain ⟨m0, b0, b1, b2, b3⟩ := HF.out _ hxc) | (go_at_call 46; refine (HTS.out _ hxc).mono ?_; rintro e w' ⟨rfl, hxs⟩; have hxc := hxc.trans hxs; clear hxs HTS; obtain ⟨m0, b0, b1, b2, b3⟩ := HF.out _ hxc) | (go_at_call 15; refine (HKN.out _ hxc).mono ?_; rintro e w' ⟨rfl, hxs⟩; have hxc := hxc.trans hxs))
  go_ret
  exact ⟨rfl, HX0.out.trans hxc⟩
 | true =>
 rw [i3] at HTS
 cases i4 : isEditionW b edition with
 | false =>
  rw [i4] at HED
  clear i0 i1 i2 i3 i4
  go_wp2_with (first | (go_at_call 14; refine (HSH.out _ hxc).mono ?_; rintro e w' ⟨rfl, hxs⟩; have hxc := hxc.trans hxs; clear hxs HSH; obtain ⟨m0, b0, b1, b2, b3⟩ := HF.out _ hxc) | (go_at_call 42; refine (HSZ.out _ hxc).mono ?_; rintro e w' ⟨rfl, hxs⟩; have hxc := hxc.trans hxs; clear hxs HSZ; obtain ⟨m0, b0, b1, b2, b3⟩ := HF.out _ hxc) | (go_at_call 21; refine (HBK.out _ hxc).mono ?_; rintro e w' ⟨rfl, hxs⟩; have hxc := hxc.trans hxs; clear hxs HBK; obtain ⟨m0, b0, b1, b2, b3⟩ := HF.out _ hxc) | (go_at_call 46; refine (HTS.out _ hxc).mono ?_; rintro e w' ⟨rfl, hxs⟩; have hxc := hxc.trans hxs; clear hxs HTS; obtain ⟨m0, b0, b1, b2, b3⟩ := HF.out _ hxc) | (go_at_call 22; refine (HED.out _ hxc).mono ?_; rintro e w' ⟨rfl, hxs⟩; have hxc := hxc.trans hxs; clear hxs HED; obtain ⟨m0, b0, b1, b2, b3⟩ := HF.out _ hxc) | (go_at_call 15; refine (HKN.out _ hxc).mono ?_; rintro e w' ⟨rfl, hxs⟩; have hxc := hxc.trans hxs))
  go_ret
  exact ⟨rfl, HX0.out.trans hxc⟩
 | true =>
 rw [i4] at HED
 cases i5 : isNumberB b number with
 | false =>
  rw [i5] at HGN
  clear i0 i1 i2 i3 i4 i5
  go_wp2_with (first | (go_at_call 14; refine (HSH.out _ hxc).mono ?_; rintro e w' ⟨rfl, hxs⟩; have hxc := hxc.trans hxs; clear hxs HSH; obtain ⟨m0, b0, b1, b2, b3⟩ := HF.out _ hxc) | (go_at_call 42; refine (HSZ.out _ hxc).mono ?_; rintro e w' ⟨rfl, hxs⟩; have hxc := hxc.trans hxs; clear hxs HSZ; obtain ⟨m0, b0, b1, b2, b3⟩ := HF.out _ hxc) | (go_at_call 21; refine (HBK.out _ hxc).mono ?_; rintro e w' ⟨rfl, hxs⟩; have hxc := hxc.trans hxs; clear hxs HBK; obtain ⟨m0, b0, b1, b2, b3⟩ := HF.out _ hxc) | (go_at_call 46; refine (HTS.out _ hxc).mono ?_; rintro e w' ⟨rfl, hxs⟩; have hxc := hxc.trans hxs; clear hxs HTS; obtain ⟨m0, b0, b1, b2, b3⟩ := HF.out _ hxc) | (go_at_call 22; refine (HED.out _ hxc).mono ?_; rintro e w' ⟨rfl, hxs⟩; have hxc := hxc.trans hxs; clear hxs HED; obtain ⟨m0, b0, b1, b2, b3⟩ := HF.out _ hxc) | (go_at_call 23; refine (HGN.out _ hxc).mono ?_; rintro e w' ⟨rfl, hxs⟩; have hxc := hxc.trans hxs; clear hxs HGN; obtain ⟨m0, b0, b1, b2, b3⟩ := HF.out _ hxc) | (go_at_call 15; refine (HKN.out _ hxc).mono ?_; rintro e w' ⟨rfl, hxs⟩; have hxc := hxc.trans hxs))
  go_ret
  exact ⟨rfl, HX0.out.trans hxc⟩
 | true =>
 rw [i5] at HGN
 cases i6 : isNumberB b good with
 | false =>
  rw [i6] at HGG
  clear i0 i1 i2 i3 i4 i5 i6
  go_wp2_with (first | (go_at_call 14; refine (HSH.out _ hxc).mono ?_; rintro e w' ⟨rfl, hxs⟩; have hxc := hxc.trans hxs; clear hxs HSH; obtain ⟨m0, b0, b1, b2, b3⟩ := HF.out _ hxc) | (go_at_call 42; refine (HSZ.out _ hxc).mono ?_; rintro e w' ⟨rfl, hxs⟩; have hxc := hxc.trans hxs; clear hxs HSZ; obtain ⟨m0, b0, b1, b2, b3⟩ := HF.out _ hxc) | (go_at_call 21; refine (HBK.out _ hxc).mono ?_; rintro e w' ⟨rfl, hxs⟩; have hxc := hxc.trans hxs; clear hxs HBK; obtain ⟨m0, b0, b1, b2, b3⟩ := HF.out _ hxc) | (go_at_call 46; refine (HTS.out _ hxc).mono ?_; rintro e w' ⟨rfl, hxs⟩; have hxc := hxc.trans hxs; clear hxs HTS; obtain ⟨m0, b0, b1, b2, b3⟩ := HF.out _ hxc) | (go_at_call 22; refine (HED.out _ hxc).mono ?_; rintro e w' ⟨rfl, hxs⟩; have hxc := hxc.trans hxs; clear hxs HED; obtain ⟨m0, b0, b1, b2, b3⟩ := HF.out _ hxc) | (go_at_call 23; refine (HGN.out _ hxc).mono ?_; rintro e w' ⟨rfl, hxs⟩; have hxc := hxc.trans hxs; clear hxs HGN; obtain ⟨m0, b0, b1, b2, b3⟩ := HF.out _ hxc) | (go_at_call 23; refine (HGG.out _ hxc).mono ?_; rintro e w' ⟨rfl, hxs⟩; have hxc := hxc.trans hxs; clear hxs HGG; obtain ⟨m0, b0, b1, b2, b3⟩ := HF.out _ hxc) | (go_at_call 15; refine (HKN.out _ hxc).mono ?_; rintro e w' ⟨rfl, hxs⟩; have hxc := hxc.trans hxs))
  go_ret
  exact ⟨rfl, HX0.out.trans hxc⟩
 | true =>
 rw [i6] at HGG
 go_upto_region 3 with (first | (go_at_call 14; refine (HSH.out _ hxc).mono ?_; rintro e w' ⟨rfl, hxs⟩; have hxc := hxc.trans hxs; clear hxs HSH; obtain ⟨m0, b0, b1, b2, b3⟩ := HF.out _ hxc) | (go_at_call 42; refine (HSZ.out _ hxc).mono ?_; rintro e w' ⟨rfl, hxs⟩; have hxc := hxc.trans hxs; clear hxs HSZ; obtain ⟨m0, b0, b1, b2, b3⟩ := HF.out _ hxc) | (go_at_call 21; refine (HBK.out _ hxc).mono ?_; rintro e w' ⟨rfl, hxs⟩; have hxc := hxc.trans hxs; clear hxs HBK; obtain ⟨m0, b0, b1, b2, b3⟩ := HF.out _ hxc) | (go_at_call 46; refine (HTS.out _ hxc).mono ?_; rintro e w' ⟨rfl, hxs⟩; have hxc := hxc.trans hxs; clear hxs HTS; obtain ⟨m0, b0, b1, b2, b3⟩ := HF.out _ hxc) | (go_at_call 22; refine (HED.out _ hxc).mono ?_; rintro e w' ⟨rfl, hxs⟩; have hxc := hxc.trans hxs; clear hxs HED; obtain ⟨m0, b0, b1, b2, b3⟩ := HF.out _ hxc) | (go_at_call 23; refine (HGN.out _ hxc).mono ?_; rintro e w' ⟨rfl, hxs⟩; have hxc := hxc.trans hxs; clear hxs HGN; obtain ⟨m0, b0, b1, b2, b3⟩ := HF.out _ hxc) | (go_at_call 23; refine (HGG.out _ hxc).mono ?_; rintro e w' ⟨rfl, hxs⟩; have hxc := hxc.trans hxs; clear hxs HGG; obtain ⟨m0, b0, b1, b2, b3⟩ := HF.out _ hxc))
 have HFI := Lib.hid (fun W1 (h : Ext W W1) => fits_any _ _ b t W1 (HBA.out W1 h) (HTA.out W1 h))
 have HME := Lib.hid (fun W1 (h : Ext W W1) => means_any _ b edition number W1 (HBA.out W1 h))
 have HNU := Lib.hid (fun W1 (h : Ext W W1) => numbers_any _ b edition good W1 (HBA.out W1 h))
 have HTR := Lib.hid (fun W1 (h : Ext W W1) => Truths_any _ b W1 (HBA.out W1 h))
 rw [i2, i3] at HFI
 rw [i4, i5] at HME
 rw [i4, i6] at HNU
 have HI := Lib.hid (And.intro i2 (And.intro i3 (And.intro i4 (And.intro i5 i6))))
 clear i0 i1 i2 i3 i4 i5 i6
 have hq : askErr b true = 0 ∨ askErr b true = 7 := by
  unfold askErr
  rw [HI.out.1]
  simp only [Bool.and_self, if_true]
  split
  ·exact .inr rfl
  ·exact .inl rfl
 rcases hq with hz | hz
 ·replace HME := Lib.hid (fun W1 (h : Ext W W1) => (HME.out W1 h).mono (fun e w' q => nums_some (show NumsRes b true _ W1 e w' from q) hz))
  replace HNU := Lib.hid (fun W1 (h : Ext W W1) => (HNU.out W1 h).mono (fun e w' q => nums_some (show NumsRes b true _ W1 e w' from q) hz))
  replace HTR := Lib.hid (fun W1 (h : Ext W W1) => (HTR.out W1 h).mono (fun e w' q => truths_some q hz))
  have hB := bookB_of HI.out.1
  have hed := editionW hB edition
  rw [HI.out.2.2.1] at hed
  obtain ⟨ed0, ed1⟩ := inB_iff.1 hed.symm
  obtain ⟨nu0, nu1⟩ := inB_iff.1 HI.out.2.2.2.1
  obtain ⟨go0, go1⟩ := inB_iff.1 HI.out.2.2.2.2
  obtain ⟨E, hE⟩ : ∃ E : Nat, edition.toNat = E := ⟨_, rfl⟩
  have hEe : edition = (E : Int) := by omega
  subst hEe
  have he : (E : Int) < b.editions := by omega
  have hmm := HI.out.2.1
  unfold isMeansB at hmm
  rw [Bool.and_eq_true, decide_eq_true_eq] at hmm
  have htl : E < t.length := by omega
  have hT0 := page_some HI.out.1 hz
  have HM1 := Lib.hid (means_pos he number hT0)
  have HM2 := Lib.hid (means_len (b := b) (e := E) nu0 (by omega : number < b.goods.length))
  have HN2 := Lib.hid (numbers_len (b := b) (e := E) go0 (by omega : good < b.goods.length))
  have HM3 := Lib.hid (fun h1 : truthsB b = 1 => means_one (n := number) he h1)
  have HMN := Lib.hid (means_numbers (b := b) (e := E) nu0 (by omega : number < b.goods.length) go0 (by omega : good < b.goods.length))
  have HMT := Lib.hid (fun h : fitsB b t = true => means_true (fits_of HI.out.2.1 h) he number)
  rw [hE] at HME HNU
  generalize meansB b E number = M at *
  generalize numbersB b E good = N at *
  generalize truthsB b = T at *
  have HBD := Lib.hid (And.intro ed0 (And.intro htl (And.intro nu0 (And.intro nu1 hT0))))
  clear hed hE hmm hz ed0 ed1 nu0 nu1 go0 go1 hB
  go_upto_region 7 with (first | (go_at_call 47; refine (HFI.out _ hxc).mono ?_; rintro e w' ⟨rfl, hxs⟩; have hxc := hxc.trans hxs; clear hxs HFI; obtain ⟨m0, b0, b1, b2, b3⟩ := HF.out _ hxc) | (go_at_call 40; refine (HME.out _ hxc).mono ?_; rintro e w' ⟨a1, c1, rfl, hM, hxs⟩; have hxc := hxc.trans hxs; clear hxs HME; obtain ⟨m0, b0, b1, b2, b3⟩ := HF.out _ hxc) | (go_at_call 48; refine (HNU.out _ hxc).mono ?_; rintro e w' ⟨a2, c2, rfl, hN, hxs⟩; have hM := hM.ext hxs; have hxc := hxc.trans hxs; clear hxs HNU; obtain ⟨m0, b0, b1, b2, b3⟩ := HF.out _ hxc) | (go_at_call 16; refine (HTR.out _ hxc).mono ?_; rintro e w' ⟨rfl, hxs⟩; have hM := hM.ext hxs; have hN := hN.ext hxs; have hxc := hxc.trans hxs; clear hxs HTR; obtain ⟨m0, b0, b1, b2, b3⟩ := HF.out _ hxc))
  have hL : listedB N number = listedB M good := by
   rw [Bool.eq_iff_iff, listed_mem, listed_mem]; exact HMN.out.symm
  have HRL := Lib.hid (show ∀ l, l ∈ t → l.length = b.goods.length from fun l hl => by
   have h1 := HI.out.2.1
   unfold isMeansB at h1
   rw [Bool.and_eq_true, Bool.not_eq_true', List.any_eq_false] at h1
   have h2 := h1.2 l hl
   unfold badRow at h2
   simp at h2
   omega)
  obtain ⟨-, -, nu0, nu1, -⟩ := HBD.out
  obtain ⟨U, hU⟩ : ∃ U : Nat, number = (U : Int) := ⟨number.toNat, by omega⟩
  subst hU
  obtain ⟨xb, xo, row, rra, rrc, hra, hrow, d0, hri, _, _⟩ := HR3.out E htl
  subst hra
  have hrl := HRL.out row (List.mem_of_getElem? hrow.out)
  obtain ⟨rra', rrc', hrv, _, _, h6⟩ := hri.open
  obtain ⟨yb, yo, x, hra2, hxr, d1⟩ := h6 U (by omega)
  cases hrv
  subst hra2
  have hxe : (t.getD E []).getD (U : Int).toNat 0 = x := by
   have h1 : t.getD E [] = row := by rw [List.getD_eq_getElem?_getD, hrow.out]; rfl
   rw [h1, List.getD_eq_getElem?_getD, Int.toNat_natCast, hxr.out]; rfl
  rw [hxe] at HMT
  have e0 := (HX0.out.trans hxc).cell d0
  have e1 := (HX0.out.trans hxc).cell d1
  have j1 : (E : Int) < (t.length : Int) := by omega
  have j2 : (U : Int) < (row.length : Int) := by omega
  have j3 : U < row.length := by omega
  have m1 := HM1.out
  have m2 := HM2.out
  have n2 := HN2.out
  have g1 : decide ((M.length : Int) < 1) = false := by simp; omega
  have g2 : decide ((b.goods.length : Int) < (M.length : Int)) = false := by simp; omega
  have g3 : decide ((b.goods.length : Int) < (N.length : Int)) = false := by simp; omega
  have g4 : decide (T < 1) = false := by simp; omega
  have HK := Lib.hid (HKN.out w' hxc)
  obtain ⟨r, hr⟩ : ∃ r, listedB M good = r := ⟨_, rfl⟩
  have HL2 := Lib.hid (llisted_any _ M good w' hM)
  have HL3 := Lib.hid (llisted_any _ N (U : Int) w' hN)
  rw [hr] at HL2
  rw [hL, hr] at HL3
  have HL1 := Lib.hid (fun hf : fitsB b t = true => (llisted_any (.slice a1 M.length c1) M x w' hM).mono (R' := fun e w9 => e = .returned (.bool true) ∧ w' = w9) (fun e w9 q => ⟨by rw [q.1, listed_mem.2 (HMT.out hf)], q.2⟩))
  have HXC := Lib.hid (HX0.out.trans hxc)
  clear hL hr hM hN hxc d0 d1 hri h6 hrl hxe hxr hrow
  clear HBA HTA HR3 HRL HBD HMN HI
  by_cases hT1 : T = 1
  ·have g5 : (T == 1) = true := by simpa using hT1
   have m3 := HM3.out hT1
   have g6 : ((M.length : Int) != 1) = false := by simp; omega
   clear m3 hT1
   go_upto_region 13 with fail
   cases hf : fitsB b t with
   | false =>
    clear HL1 HMT hf
    cases r <;>
    ·go_wp2_with (first | (go_at_call 41; refine HL2.out.mono ?_; rintro e w9 ⟨rfl, rfl⟩; clear HL2) | (go_at_call 41; refine HL3.out.mono ?_; rintro e w9 ⟨rfl, rfl⟩; clear HL3) | (go_at_call 15; refine HK.out.mono ?_; rintro e w9 ⟨rfl, hx9⟩))
     go_ret
     exact ⟨rfl, HXC.out.trans hx9⟩
   | true =>
    replace HL1 := Lib.hid (HL1.out hf)
    clear HMT hf
    cases r <;>
    ·go_wp2_with (first | (go_at_call 41; refine HL1.out.mono ?_; rintro e w9 ⟨rfl, rfl⟩; clear HL1) | (go_at_call 41; refine HL2.out.mono ?_; rintro e w9 ⟨rfl, rfl⟩; clear HL2) | (go_at_call 41; refine HL3.out.mono ?_; rintro e w9 ⟨rfl, rfl⟩; clear HL3) | (go_at_call 15; refine HK.out.mono ?_; rintro e w9 ⟨rfl, hx9⟩))
     go_ret
     exact ⟨rfl, HXC.out.trans hx9⟩
  ·have g5 : (T == 1) = false := by simpa using hT1
   clear hT1
   go_upto_region 13 with fail
   cases hf : fitsB b t with
   | false =>
    clear HL1 HMT hf
    cases r <;>
    ·go_wp2_with (first | (go_at_call 41; refine HL2.out.mono ?_; rintro e w9 ⟨rfl, rfl⟩; clear HL2) | (go_at_call 41; refine HL3.out.mono ?_; rintro e w9 ⟨rfl, rfl⟩; clear HL3) | (go_at_call 15; refine HK.out.mono ?_; rintro e w9 ⟨rfl, hx9⟩))
     go_ret
     exact ⟨rfl, HXC.out.trans hx9⟩
   | true =>
    replace HL1 := Lib.hid (HL1.out hf)
    clear HMT hf
    cases r <;>
    ·go_wp2_with (first | (go_at_call 41; refine HL1.out.mono ?_; rintro e w9 ⟨rfl, rfl⟩; clear HL1) | (go_at_call 41; refine HL2.out.mono ?_; rintro e w9 ⟨rfl, rfl⟩; clear HL2) | (go_at_call 41; refine HL3.out.mono ?_; rintro e w9 ⟨rfl, rfl⟩; clear HL3) | (go_at_call 15; refine HK.out.mono ?_; rintro e w9 ⟨rfl, hx9⟩))
     go_ret
     exact ⟨rfl, HXC.out.trans hx9⟩
 ·have hnf : fitsB b t = false := no_fits HI.out.1 HI.out.2.1 hz
  replace HME := Lib.hid (fun W1 (h : Ext W W1) => (HME.out W1 h).mono (fun e w' q => nums_none (show NumsRes b true _ W1 e w' from q) hz))
  replace HNU := Lib.hid (fun W1 (h : Ext W W1) => (HNU.out W1 h).mono (fun e w' q => nums_none (show NumsRes b true _ W1 e w' from q) hz))
  replace HTR := Lib.hid (fun W1 (h : Ext W W1) => (HTR.out W1 h).mono (fun e w' q => truths_none q hz))
  rw [hnf] at HFI
  clear hz hnf
  go_wp2_with (first | (go_at_call 47; refine (HFI.out _ hxc).mono ?_; rintro e w' ⟨rfl, hxs⟩; have hxc := hxc.trans hxs; clear hxs HFI; obtain ⟨m0, b0, b1, b2, b3⟩ := HF.out _ hxc) | (go_at_call 40; refine (HME.out _ hxc).mono ?_; rintro e w' ⟨rfl, hxs⟩; have hxc := hxc.trans hxs; clear hxs HME; obtain ⟨m0, b0, b1, b2, b3⟩ := HF.out _ hxc) | (go_at_call 48; refine (HNU.out _ hxc).mono ?_; rintro e w' ⟨rfl, hxs⟩; have hxc := hxc.trans hxs; clear hxs HNU; obtain ⟨m0, b0, b1, b2, b3⟩ := HF.out _ hxc) | (go_at_call 16; refine (HTR.out _ hxc).mono ?_; rintro e w' ⟨rfl, hxs⟩; have hxc := hxc.trans hxs; clear hxs HTR; obtain ⟨m0, b0, b1, b2, b3⟩ := HF.out _ hxc) | (go_at_call 15; refine (HKN.out _ hxc).mono ?_; rintro e w' ⟨rfl, hxs⟩; have hxc := hxc.trans hxs))
  go_ret
  exact ⟨rfl, HX0.out.trans hxc⟩
end Go.Proofs.YtpebafaigldldaaGreatDoor
