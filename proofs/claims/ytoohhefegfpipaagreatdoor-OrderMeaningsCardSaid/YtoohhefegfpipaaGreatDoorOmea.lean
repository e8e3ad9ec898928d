/- The law OrderMeanings. -/
import Derived.Test.YtoohhefegfpipaaGreatDoorOkn
import Derived.Test.YtoohhefegfpipaaGreatDoorOas
import Derived.Test.YtoohhefegfpipaaGreatDoorLisq
import Derived.Test.YtoohhefegfpipaaGreatDoorOr
import Derived.Test.YtoohhefegfpipaaGreatDoorOrn
import Derived.Test.YtoohhefegfpipaaGreatDoorOrft
import Derived.Test.YtoohhefegfpipaaGreatDoorOsa
import Derived.Deep.DeepCutAuto
namespace Go.Proofs.YtoohhefegfpipaaGreatDoor
open Go.RowKit
theorem gt_means {b : Book} {e n : Nat} (hn : n < b.goods.length) : gtTo (fun g : Nat => leftB b e n g) b.goods.length = meansB b e (n : Int) := by
 rw [means_ref (by omega) (by omega)]
 unfold gtTo numsOf
 rw [List.filter_map]; rfl
theorem gt_numbers {b : Book} {e g : Nat} (hg : g < b.goods.length) : gtTo (fun n : Nat => leftB b e n g) b.goods.length = numbersB b e (g : Int) := by
 rw [numbers_ref (by omega) (by omega)]
 unfold gtTo numsOf
 rw [List.filter_map]; rfl
theorem lasked_gen (v : Value) (b : Book) (fine : Bool) (w : World) (hb : BookAt w v b) :
 Calls Tryz.prog 14 #[v, .bool fine] w fun e w' => ∃ xa xn xc ya yn yc, e = .returned (.tuple #[.agg #[.slice xa xn xc, .slice ya yn yc], .int .i64 (askErr b fine)]) ∧ (askErr b fine = 0 → ∀ W2, Touch (fun j => j < w.heap.size) w' W2 → ListsAt W2 (.agg #[.slice xa xn xc, .slice ya yn yc]) b) ∧ Ext w w' := by
 cases hq : (isBookB b && fine) with
 | false =>
  refine (lasked_bad v b fine w hb hq).mono ?_
  rintro e w' ⟨rfl, hx⟩
  have hz : askErr b fine = 2 := by unfold askErr; rw [hq]; rfl
  exact ⟨none, 0, 0, none, 0, 0, (by rw [hz]), (fun h => by rw [hz] at h; cases h), hx⟩
 | true =>
  rw [Bool.and_eq_true] at hq
  obtain ⟨h1, rfl⟩ := hq
  have hz : (if truthsB b = 0 then 7 else 0) = askErr b true := by
   unfold askErr
   rw [h1]
   simp only [Bool.and_self, if_true]
   by_cases hp : pageB b 0 = []
   ·rw [if_pos (truths_zero hp), hp]; rfl
   ·have := truths_pos hp
    rw [if_neg (by omega), if_neg (by simpa using hp)]
  refine (lasked_ok v b w hb h1 _ hz).mono ?_
  rintro e w' ⟨aa, ac, ma, mc, rfl, hl, hx⟩
  exact ⟨_, _, _, _, _, _, rfl, fun _ => hl, hx⟩
/-- Behind a call of asked: its lists in a block, its error. -/
def MetL (W : World) (b : Book) (Z : Int) (p z : Value) (wx : World) : Prop := ∃ (blk : Nat) (xa : Option Addr) (xn xc : Nat) (ya : Option Addr) (yn yc : Nat), p = .pointer (some ⟨blk, 0, none⟩) ∧ z = .int .i64 Z ∧ W.heap.size ≤ blk ∧ wx.heap[blk]? = some (.cells #[.slice xa xn xc, .slice ya yn yc] 35 (0, 0)) ∧ (Z = 0 → ListsAt wx (.agg #[.slice xa xn xc, .slice ya yn yc]) b) ∧ Ext W wx
theorem metL_before {W wc wn : World} {b : Book} {Z : Int} {B xn xc yn yc : Nat} {xa ya : Option Addr} {z0 z1 : Value} (hx : Ext W wn) (hB : W.heap.size ≤ B) (hzb : wn.heap[B]? = some (.cells #[z0, z1] 35 (0, 0))) (hc : B < wc.heap.size) (hl : Z = 0 → ∀ W2, Touch (fun j => j < wc.heap.size) wn W2 → ListsAt W2 (.agg #[.slice xa xn xc, .slice ya yn yc]) b) :
 MetL W b Z (.pointer (some ⟨B, 0, none⟩)) (.int .i64 Z) ((wn.setCell ⟨B, 0, none⟩ (.slice xa xn xc)).setCell ⟨B, 1, none⟩ (.slice ya yn yc)) :=
 ⟨B, _, _, _, _, _, _, rfl, rfl, hB, putL2_block hzb _ _, fun h => hl h _ ((Touch.setCell (M := fun j => j < wc.heap.size) (a := ⟨B, 0, none⟩) _ hc).trans (Touch.setCell (a := ⟨B, 1, none⟩) _ hc)), putL2_ext hx hB _ _⟩
theorem metL_after {W wc wn : World} {b : Book} {Z : Int} {xn xc yn yc : Nat} {xa ya : Option Addr} (hx : Ext W wn) (hl : Z = 0 → ∀ W2, Touch (fun j => j < wc.heap.size) wn W2 → ListsAt W2 (.agg #[.slice xa xn xc, .slice ya yn yc]) b) :
 MetL W b Z (.pointer (some ⟨wn.heap.size, 0, none⟩)) (.int .i64 Z) (wn.alloc (.cells #[.slice xa xn xc, .slice ya yn yc] 35)) :=
 ⟨_, _, _, _, _, _, _, rfl, rfl, hx.size, World.alloc_heap_new _ _, fun h => (hl h wn (Touch.refl _ _)).ext ((Ext.refl wn).alloc _), hx.alloc _⟩
/-- A list that Means or Numbers hands back, with its error. -/
theorem nums_gen {b : Book} {fine : Bool} {l : List Int} {w w' : World} {e : Ending} (h : NumsRes b fine l w e w') : ∃ a k c, e = .returned (.tuple #[.slice a k c, .int .i64 (askErr b fine)]) ∧ (askErr b fine = 0 → IntsAt w' (.slice a k c) l) ∧ (askErr b fine ≠ 0 → k = 0) ∧ Ext w w' := by
 rcases h.2 with ⟨r, r2⟩ | ⟨r, u, h1, h2⟩
 ·exact ⟨_, _, _, r2, fun h => absurd h r, fun _ => rfl, h.1⟩
 ·obtain ⟨a, c, rfl, _⟩ := h2.open
  exact ⟨_, _, _, by rw [h1, r], fun _ => h2, fun h => absurd r h, h.1⟩
theorem ask_fine {b : Book} {fine : Bool} (h : askErr b fine = 0) : isBookB b = true ∧ fine = true := by
 unfold askErr at h
 cases hq : (isBookB b && fine) with
 | false => rw [hq] at h; cases h
 | true => rwa [Bool.and_eq_true] at hq
set_option maxRecDepth 100000 in
set_option maxHeartbeats 16000000 in
theorem orderMeanings_any (v : Value) (b : Book) (tv : Value) (t : List (List Int)) (edition number good : Int) (w : World) (hb : BookAt w v b) (htt : TruthAt w tv t) (ht : TabOk w) (hm : MaxOk w) :
  Calls Tryz.prog 4 #[v, tv, .int .i64 edition, .int .i64 number, .int .i64 good] w fun e w' => e = .returned (.bool true) ∧ Ext w w' := by
 have htt0 := htt
 obtain ⟨rv, rfl, hr⟩ := htt
 obtain ⟨ra, rc, rfl, _, _, _⟩ := hr.open
 obtain ⟨ga, gc, ea, ec, rfl, hgl, hel⟩ := hb.open
 obtain ⟨W, HW⟩ : ∃ W, Hid (W = (w.alloc (bookBox (.slice ga b.goods.length gc) b (.slice ea b.entries.length ec))).alloc (.cells #[.slice ra t.length rc] 42)) := ⟨_, rfl⟩
 have HX0 := Lib.hid (show Ext w W by rw [HW.out]; exact ((Ext.refl w).alloc _).alloc _)
 have HF := Lib.hid (fun W1 (h : Ext W W1) => (And.intro (h.cell (show W.cell? ⟨w.heap.size + 1, 0, none⟩ = some (.slice ra t.length rc) by rw [HW.out]; go_simp)) (BoxAt.ext (show BoxAt W w.heap.size (.slice ga b.goods.length gc) b (.slice ea b.entries.length ec) by rw [HW.out]; exact (BoxAt.new _ _ _ _).ext ((Ext.refl _).alloc _)) h)))
 have HKN := Lib.hid (fun W1 (h : Ext W W1) => lknown_any W1 (ht.ext (HX0.out.trans h)) (hm.ext (HX0.out.trans h)))
 have HBA := Lib.hid (fun W1 (h : Ext W W1) => hb.ext (HX0.out.trans h))
 have HTA := Lib.hid (fun W1 (h : Ext W W1) => (show TruthAt W1 _ t from ⟨_, rfl, hr.ext (HX0.out.trans h)⟩))
 have HSH := Lib.hid (fun W1 (h : Ext W W1) => short_any _ b W1 (HBA.out W1 h))
 have HSZ := Lib.hid (fun W1 (h : Ext W W1) => sized_any _ t W1 (hr.ext (HX0.out.trans h)))
 have HCK := Lib.hid (fun W1 (h : Ext W W1) => check_any _ b W1 (HBA.out W1 h))
 have HFT := Lib.hid (fun W1 (h : Ext W W1) => fits_any _ _ b t W1 (HBA.out W1 h) (HTA.out W1 h))
 have HMN := Lib.hid (fun W1 (h : Ext W W1) => (means_any _ b edition number W1 (HBA.out W1 h)).mono (fun e w' q => nums_gen (show NumsRes b _ _ W1 e w' from q)))
 have HNM := Lib.hid (fun W1 (h : Ext W W1) => (numbers_any _ b edition good W1 (HBA.out W1 h)).mono (fun e w' q => nums_gen (show NumsRes b _ _ W1 e w' from q)))
 have HBK := Lib.hid (fun W1 (h : Ext W W1) => rbook_any _ b W1 (HBA.out W1 h))
 have HSD := Lib.hid (fun W1 (h : Ext W W1) => rsized_any _ _ b t W1 (HBA.out W1 h) (HTA.out W1 h))
 have HRF := Lib.hid (fun (h1 : isBookB b = true) (h2 : isMeansB b t = true) W1 (h : Ext W W1) => rfits_any _ _ b t W1 (bookB_of h1) h2 (HBA.out W1 h) (HTA.out W1 h))
 have HED := Lib.hid (fun W1 => redition_any ga ea b.goods.length gc b.entries.length ec b edition W1)
 have HGN := Lib.hid (fun W1 => rgood_any ga ea gc b.entries.length ec b number W1 hgl)
 have HGD := Lib.hid (fun W1 => rgood_any ga ea gc b.entries.length ec b good W1 hgl)
 have HLA := Lib.hid (fun fine W1 (h : Ext W W1) => lasked_gen _ b fine W1 (HBA.out W1 h))
 clear hb htt0 hr ht hm hgl hel
 go_enter Tryz.func4, Tryz.ntmps4
 go_upto_region 1 with fail
 rw [← HW.out]
 have hq := Ext.refl W
 obtain ⟨m0, b0, b1, b2, b3⟩ := HF.out _ hq
 cases i0 : shortB b with
 | false =>
  rw [i0] at HSH
  clear i0
  go_wp2_with (first | (go_at_call 10; refine (HSH.out _ hq).mono ?_; rintro e w' ⟨rfl, hx⟩; clear HSH; have hq := hq.trans hx; clear hx m0 b0 b1 b2 b3; obtain ⟨m0, b0, b1, b2, b3⟩ := HF.out _ hq) | (go_at_call 11; refine (HKN.out _ hq).mono ?_; rintro e w' ⟨rfl, hx⟩; clear HKN; have hq := hq.trans hx; clear hx m0 b0 b1 b2 b3; obtain ⟨m0, b0, b1, b2, b3⟩ := HF.out _ hq))
  go_ret
  exact ⟨rfl, HX0.out.trans hq⟩
 | true =>
 rw [i0] at HSH
 cases i1 : sizedB t with
 | false =>
  rw [i1] at HSZ
  clear i0 i1
  go_wp2_with (first | (go_at_call 10; refine (HSH.out _ hq).mono ?_; rintro e w' ⟨rfl, hx⟩; clear HSH; have hq := hq.trans hx; clear hx m0 b0 b1 b2 b3; obtain ⟨m0, b0, b1, b2, b3⟩ := HF.out _ hq) | (go_at_call 17; refine (HSZ.out _ hq).mono ?_; rintro e w' ⟨rfl, rfl⟩; clear HSZ) | (go_at_call 11; refine (HKN.out _ hq).mono ?_; rintro e w' ⟨rfl, hx⟩; clear HKN; have hq := hq.trans hx; clear hx m0 b0 b1 b2 b3; obtain ⟨m0, b0, b1, b2, b3⟩ := HF.out _ hq))
  go_ret
  exact ⟨rfl, HX0.out.trans hq⟩
 | true =>
 rw [i1] at HSZ
 clear i0 i1
 have HCB : Hid ((isBookB b = true → (if isBookB b = true then (0 : Int) else 2) = 0) ∧ (isBookB b = false → (if isBookB b = true then (0 : Int) else 2) = 2)) := ⟨fun h => by rw [if_pos h], fun h => by rw [h]; rfl⟩
 have HFC : Hid ((isBookB b = true → isMeansB b t = true → (if (isBookB b && isMeansB b t) = true then (0 : Int) else 2) = 0 ∧ (isBookB b && isMeansB b t && fitsB b t) = fitsB b t) ∧ ((isBookB b = false ∨ isMeansB b t = false) → (if (isBookB b && isMeansB b t) = true then (0 : Int) else 2) = 2 ∧ (isBookB b && isMeansB b t && fitsB b t) = false)) := by
  refine ⟨fun h1 h2 => ?_, fun h => ?_⟩
  ·rw [h1, h2]; exact ⟨rfl, rfl⟩
  ·rcases h with h | h
   ·rw [h]; exact ⟨rfl, rfl⟩
   ·rw [h, Bool.and_false]; exact ⟨rfl, rfl⟩
 generalize (if isBookB b = true then (0 : Int) else 2) = CB at HCB HCK
 generalize (if (isBookB b && isMeansB b t) = true then (0 : Int) else 2) = FC at HFC HFT
 generalize (isBookB b && isMeansB b t && fitsB b t) = FB at HFC HFT
 obtain ⟨Z1, hZ1⟩ : ∃ Z1, askErr b (isEditionW b edition && isNumberB b number) = Z1 := ⟨_, rfl⟩
 obtain ⟨Z2, hZ2⟩ : ∃ Z2, askErr b (isEditionW b edition && isNumberB b good) = Z2 := ⟨_, rfl⟩
 rw [hZ1] at HMN
 rw [hZ2] at HNM
 have HZ1 := Lib.hid hZ1
 have HZ2 := Lib.hid hZ2
 clear hZ1 hZ2
 have HBX : Hid (∃ BK, BK = isBookB b) := ⟨_, rfl⟩
 obtain ⟨BK, hBK⟩ : ∃ BK, isBookB b = BK := ⟨_, rfl⟩
 obtain ⟨SD, hSD⟩ : ∃ SD, isMeansB b t = SD := ⟨_, rfl⟩
 rw [hBK] at HBK
 rw [hSD] at HSD
 have HBV := Lib.hid hBK
 have HSV := Lib.hid hSD
 clear hBK hSD
 go_upto_region 8 with (first | (go_at_call 10; refine (HSH.out _ hq).mono ?_; rintro e w' ⟨rfl, hx⟩; clear HSH; have hq := hq.trans hx; clear hx m0 b0 b1 b2 b3; obtain ⟨m0, b0, b1, b2, b3⟩ := HF.out _ hq) | (go_at_call 17; refine (HSZ.out _ hq).mono ?_; rintro e w' ⟨rfl, rfl⟩; clear HSZ) | (go_at_call 18; refine (HCK.out _ hq).mono ?_; rintro e w' ⟨rfl, hx⟩; clear HCK; have hq := hq.trans hx; clear hx m0 b0 b1 b2 b3; obtain ⟨m0, b0, b1, b2, b3⟩ := HF.out _ hq) | (go_at_call 19; refine (HFT.out _ hq).mono ?_; rintro e w' ⟨rfl, hx⟩; clear HFT; have hq := hq.trans hx; clear hx m0 b0 b1 b2 b3; obtain ⟨m0, b0, b1, b2, b3⟩ := HF.out _ hq) | (go_at_call 20; refine (HMN.out _ hq).mono ?_; rintro e w' ⟨a1, k1, c1, rfl, hi1, hk1, hx⟩; clear HMN; have HI1 := Lib.hid hi1; have HK1 := Lib.hid hk1; have hq := hq.trans hx; clear hx hi1 hk1 m0 b0 b1 b2 b3; obtain ⟨m0, b0, b1, b2, b3⟩ := HF.out _ hq) | (go_at_call 21; refine (HNM.out _ hq).mono ?_; rintro e w' ⟨a2, k2, c2, rfl, hi2, hk2, hx⟩; clear HNM; replace HI1 := Lib.hid (fun h => (HI1.out h).ext hx); have HI2 := Lib.hid hi2; have HK2 := Lib.hid hk2; have hq := hq.trans hx; clear hx hi2 hk2 m0 b0 b1 b2 b3; obtain ⟨m0, b0, b1, b2, b3⟩ := HF.out _ hq) | (go_at_call 22; refine (HBK.out _ hq).mono ?_; rintro e wA ⟨rfl, hx⟩; have hq := hq.trans hx; replace HI1 := Lib.hid (fun h => (HI1.out h).ext hx); replace HI2 := Lib.hid (fun h => (HI2.out h).ext hx); clear hx m0 b0 b1 b2 b3; obtain ⟨m0, b0, b1, b2, b3⟩ := HF.out _ hq))
 have HQA := Lib.hid hq
 replace HF := Lib.hid (fun W1 (h : Ext wA W1) => HF.out W1 (HQA.out.trans h))
 replace HBA := Lib.hid (fun W1 (h : Ext wA W1) => HBA.out W1 (HQA.out.trans h))
 replace HKN := Lib.hid (fun W1 (h : Ext wA W1) => HKN.out W1 (HQA.out.trans h))
 replace HBK := Lib.hid (fun W1 (h : Ext wA W1) => HBK.out W1 (HQA.out.trans h))
 replace HSD := Lib.hid (fun W1 (h : Ext wA W1) => HSD.out W1 (HQA.out.trans h))
 replace HRF := Lib.hid (fun h1 h2 W1 (h : Ext wA W1) => HRF.out h1 h2 W1 (HQA.out.trans h))
 replace HLA := Lib.hid (fun fine W1 (h : Ext wA W1) => HLA.out fine W1 (HQA.out.trans h))
 replace hq := Ext.refl wA
 go_cut [67] (fun z wx => z = .bool false ∧ Ext wA wx)
 case first =>
  cases BK with
  | false =>
   have hcb := HCB.out.2 HBV.out
   subst hcb
   go_wp2_with fail
   go_meet
   case rel => exact ⟨rfl, hq⟩
  | true =>
   have hcb := HCB.out.1 HBV.out
   subst hcb
   go_wp2_with fail
   go_meet
   case rel => exact ⟨rfl, hq⟩
 case rest =>
  clear HCB
  obtain ⟨rfl, hcut⟩ := hcut
  replace hq := hcut
  clear m0 b0 b1 b2 b3 hcut
  obtain ⟨m0, b0, b1, b2, b3⟩ := HF.out _ hq
  go_upto_region 10 with fail
  go_cut [76] (fun z wx => z = .bool (!(BK && SD)) ∧ Ext wA wx)
  case first =>
   clear HED HGN HGD HLA HRF
   cases BK with
   | false =>
    go_wp2_with (first | (go_at_call 22; refine (HBK.out _ hq).mono ?_; rintro e w' ⟨rfl, hx⟩; have hq := hq.trans hx; clear hx m0 b0 b1 b2 b3; obtain ⟨m0, b0, b1, b2, b3⟩ := HF.out _ hq))
    go_meet
    case rel => exact ⟨rfl, hq⟩
   | true =>
    cases SD with
    | false =>
     go_wp2_with (first | (go_at_call 22; refine (HBK.out _ hq).mono ?_; rintro e w' ⟨rfl, hx⟩; have hq := hq.trans hx; clear hx m0 b0 b1 b2 b3; obtain ⟨m0, b0, b1, b2, b3⟩ := HF.out _ hq) | (go_at_call 23; refine (HSD.out _ hq).mono ?_; rintro e w' ⟨rfl, hx⟩; clear HSD; have hq := hq.trans hx; clear hx m0 b0 b1 b2 b3; obtain ⟨m0, b0, b1, b2, b3⟩ := HF.out _ hq))
     go_meet
     case rel => exact ⟨rfl, hq⟩
    | true =>
     go_wp2_with (first | (go_at_call 22; refine (HBK.out _ hq).mono ?_; rintro e w' ⟨rfl, hx⟩; have hq := hq.trans hx; clear hx m0 b0 b1 b2 b3; obtain ⟨m0, b0, b1, b2, b3⟩ := HF.out _ hq) | (go_at_call 23; refine (HSD.out _ hq).mono ?_; rintro e w' ⟨rfl, hx⟩; clear HSD; have hq := hq.trans hx; clear hx m0 b0 b1 b2 b3; obtain ⟨m0, b0, b1, b2, b3⟩ := HF.out _ hq))
     go_meet
     case rel => exact ⟨rfl, hq⟩
  case rest =>
   obtain ⟨rfl, hcut⟩ := hcut
   replace hq := hcut
   clear m0 b0 b1 b2 b3 hcut HSD HBK
   obtain ⟨m0, b0, b1, b2, b3⟩ := HF.out _ hq
   obtain ⟨wB, hwB⟩ : ∃ wB : World, wB = wc := ⟨_, rfl⟩
   subst hwB
   go_upto_if 76 with fail
   go_cut [] (fun wx => Ext wA wx)
   case first =>
    clear HED HGN HGD HLA
    have hbv := HBV.out
    have hsv := HSV.out
    clear HBV HSV
    cases hx : (BK && SD) with
    | false =>
     obtain ⟨h1, h2⟩ := HFC.out.2 (by rw [hbv, hsv]; rwa [Bool.and_eq_false_iff] at hx)
     subst h1 h2
     clear HFC
     go_wp2_with fail
     go_meet
     case rel => exact hq
    | true =>
     rw [Bool.and_eq_true] at hx
     obtain ⟨rfl, rfl⟩ := hx
     obtain ⟨h1, h2⟩ := HFC.out.1 hbv hsv
     replace HRF := Lib.hid (fun W1 h => HRF.out hbv hsv W1 h)
     rw [← h2] at HRF
     subst h1
     have t1 : (FB != FB) = false := by simp
     clear HFC h2 hbv hsv
     go_wp2_with (first | (go_at_call 24; refine (HRF.out _ hq).mono ?_; rintro e w' ⟨rfl, hx⟩; clear HRF; have hq := hq.trans hx; clear hx m0 b0 b1 b2 b3; obtain ⟨m0, b0, b1, b2, b3⟩ := HF.out _ hq))
     go_meet
     case rel => exact hq
   case rest =>
   clear HFC HRF
   replace hq := hcut
   clear m0 b0 b1 b2 b3 hcut
   obtain ⟨m0, b0, b1, b2, b3⟩ := HF.out _ hq
   go_upto_region 15 with fail
   obtain ⟨Wz, hWz⟩ : ∃ Wz : World, Wz = wc := ⟨_, rfl⟩
   subst hWz
   have HWZ := Lib.hid hq
   have HFS := Lib.hid (fun W1 (h : Ext wA W1) => (HF.out _ h).2)
   have hsA := HWZ.out.size
   go_cut [19, 20] (fun p z wx => MetL wA b Z1 p z wx)
   case first =>
    have HZ := HZ1.out
    clear HGD HKN HI1 HI2 HK1 HK2
    cases hed : isEditionW b edition with
    | false =>
     rw [hed] at HED HZ
     rw [Bool.false_and] at HZ
     replace HLA := Lib.hid (fun W1 h => HLA.out false W1 h)
     rw [HZ] at HLA
     clear hed HZ
     as_aux_lemma =>
      refine wp_region_held_drew (S := (fun W' => BoxAt W' w.heap.size (.slice ga b.goods.length gc) b (.slice ea b.entries.length ec))) (by kernel_rfl) ?_ (fun hHeld => ?_)
      ·exact HFS.out _ HWZ.out.drew
      refine hTk (i := 0) (d := some 92) (v := ?_) (fun o ho => ?_) hHeld ?_
      rotate_left
      ·simp only [zA, zB, zD] at ho
       subst ho
       refine ⟨by rfl, fun w hSw => ?_⟩
       obtain ⟨c0, c1, c2, c3⟩ := hSw
       go_simp
       try with_reducible rfl
      try simp only [Act.put, yA, yB, yC]
      refine hTk (i := 1) (d := some 93) (v := ?_) (fun o ho => ?_) hHeld ?_
      rotate_left
      ·simp only [zA, zB, zC, zD] at ho
       subst ho
       refine ⟨by rfl, fun w hSw => ?_⟩
       obtain ⟨c0, c1, c2, c3⟩ := hSw
       go_simp
       try with_reducible rfl
      try simp only [Act.put, yA, yB, yC]
      refine hTk (i := 2) (d := some 94) (v := ?_) (fun o ho => ?_) hHeld ?_
      rotate_left
      ·simp only [zA, zB, zC, zD] at ho
       subst ho
       refine ⟨by rfl, fun w hSw => ?_⟩
       (try dsimp only at hSw)
       go_simp
       try with_reducible rfl
      try simp only [Act.put, yA, yB, yC]
      refine wpAnyH_ready (rs := [3, 13]) (by kernel_rfl) (by simp) ?_
      refine held_step (i := 3) (by kernel_rfl) (fun o ho K' hK => ?_) ?_
      ·simp only [zA, zB, zC, zD] at ho
       subst ho
       go_simp
       go_at_call 25
       refine (HED.out _).mono ?_
       rintro r w3 ⟨rfl, hz⟩
       have hyw : Ext Wz w3 := Ext.trans eC hz
       have hywA := HWZ.out.trans hyw
       have hsw := hyw.size
       clear hz
       try go_simp
       refine hK.out _ _ ?_ (fun hHeld => ?_)
       ·exact HFS.out _ eS
       clear hK K'
       try simp only [yA, yB, yC]
       refine hTk (i := 4) (d := some 96) (v := ?_) (fun o ho => ?_) hHeld ?_
       rotate_left
       ·simp only [zA, zB, zC, zD] at ho
        subst ho
        refine ⟨by rfl, fun w hSw => ?_⟩
        (try dsimp only at hSw)
        go_simp
        try with_reducible rfl
       try simp only [Act.put, yA, yB, yC]
       refine held_skip (i := 5) (d := some 97) (by kernel_rfl) (by kernel_rfl) (by kernel_rfl) (by kernel_rfl) (by kernel_rfl) (fun _ _ _ h => h) hHeld ?_
       try simp only [Act.put, yA, yB, yC]
       refine held_skip (i := 6) (d := some 98) (by kernel_rfl) (by kernel_rfl) (by kernel_rfl) (by kernel_rfl) (by kernel_rfl) (fun _ _ _ h => h) hHeld ?_
       try simp only [Act.put, yA, yB, yC]
       refine held_skip (i := 7) (d := some 99) (by kernel_rfl) (by kernel_rfl) (by kernel_rfl) (by kernel_rfl) (by kernel_rfl) (fun _ _ _ h => h) hHeld ?_
       try simp only [Act.put, yA, yB, yC]
       refine hTk (i := 8) (d := some 100) (v := ?_) (fun o ho => ?_) hHeld ?_
       rotate_left
       ·simp only [zA, zB, zC, zD] at ho
        subst ho
        refine ⟨by rfl, fun w hSw => ?_⟩
        (try dsimp only at hSw)
        go_simp
        try with_reducible rfl
       try simp only [Act.put, yA, yB, yC]
       refine wpAnyH_ready (rs := [9, 13]) (by kernel_rfl) (by simp) ?_
       refine held_step (i := 9) (by kernel_rfl) (fun o ho K' hK => ?_) ?_
       ·simp only [zA, zB, zC, zD] at ho
        subst ho
        go_simp
        go_at_call 14
        refine (HLA.out _ (HWZ.out.trans eC)).mono ?_
        rintro r w9 ⟨xa, xn, xc, ya, yn, yc, rfl, hls, hz⟩
        have hyw9 : Ext Wz w9 := Ext.trans eC hz
        have hywB := HWZ.out.trans hyw9
        have hsw9 := hyw9.size
        try go_simp
        refine hK.out _ _ ?_ (fun hHeld => ?_)
        ·exact HFS.out _ eS
        clear hK K'
        try simp only [yA, yB, yC]
        refine hTk (i := 10) (d := some 91) (v := ?_) (fun o ho => ?_) hHeld ?_
        rotate_left
        ·simp only [zA, zB, zC, zD] at ho
         subst ho
         refine ⟨by rfl, fun w hSw => ?_⟩
         (try dsimp only at hSw)
         go_simp
         try with_reducible rfl
        try simp only [Act.put, yA, yB, yC]
        refine hTk (i := 11) (d := some 102) (v := ?_) (fun o ho => ?_) hHeld ?_
        rotate_left
        ·simp only [zA, zB, zC, zD] at ho
         subst ho
         refine ⟨by rfl, fun w hSw => ?_⟩
         (try dsimp only at hSw)
         go_simp
         try with_reducible rfl
        try simp only [Act.put, yA, yB, yC]
        refine hTk (i := 12) (d := some 103) (v := ?_) (fun o ho => ?_) hHeld ?_
        rotate_left
        ·simp only [zA, zB, zC, zD] at ho
         subst ho
         refine ⟨by rfl, fun w hSw => ?_⟩
         (try dsimp only at hSw)
         go_simp
         try with_reducible rfl
        try simp only [Act.put, yA, yB, yC]
        refine wpAnyH_ready (rs := [13]) (by kernel_rfl) (by simp) ?_
        refine held_step (i := 13) (by kernel_rfl) (fun o ho K' hK => ?_) ?_
        ·simp only [zA, zB, zC, zD] at ho
         subst ho
         go_simp
         refine hK.out _ _ ?_ (fun hHeld => ?_)
         ·exact HFS.out _ eS
         clear hK K'
         try simp only [yA, yB, yC]
         refine wpAnyH_ready (rs := [14]) (by kernel_rfl) (by simp) ?_
         refine held_step (i := 14) (by kernel_rfl) (fun o ho K' hK => ?_) ?_
         ·simp only [zA, zB, zC, zD] at ho
          subst ho
          go_simp
          refine hK.out _ _ ?_ (fun hHeld => ?_)
          ·exact HFS.out _ eS
          clear hK K'
          try simp only [yA, yB, yC]
          refine wpAnyH_ready (rs := [15]) (by kernel_rfl) (by simp) ?_
          refine held_step (i := 15) (by kernel_rfl) (fun o ho K' hK => ?_) ?_
          ·simp only [zA, zB, zC, zD] at ho
           subst ho
           go_simp
           refine hK.out _ _ ?_ (fun hHeld => ?_)
           ·exact HFS.out _ eS
           clear hK K'
           try simp only [yA, yB, yC]
           refine wpAnyH_done (by kernel_rfl) ?_ _
           try simp only [yA, yB, yC]
           clear hHeld
           go_wp2_with fail
           go_meet
           case rel => first | exact metL_after (HWZ.out.trans hyw9) hls | exact metL_before (HWZ.out.trans hyw9) (by have := HWZ.out.size; omega) hzb (by first | (simp; done) | (simp; omega) | (simp only [World.size_alloc, World.heap_drew]; omega) | (have := (Array.getElem?_eq_some_iff.1 hzc).1; omega)) hls
          exact AllReadyH.nil
         exact AllReadyH.nil
        exact AllReadyH.nil
       refine held_step (i := 13) (by kernel_rfl) (fun o ho K' hK => ?_) ?_
       ·simp only [zA, zB, zC, zD] at ho
        subst ho
        go_simp
        refine hK.out _ _ ?_ (fun hHeld => ?_)
        ·exact HFS.out _ eS
        clear hK K'
        try simp only [yA, yB, yC]
        refine wpAnyH_ready (rs := [9]) (by kernel_rfl) (by simp) ?_
        refine held_step (i := 9) (by kernel_rfl) (fun o ho K' hK => ?_) ?_
        ·simp only [zA, zB, zC, zD] at ho
         subst ho
         go_simp
         go_at_call 14
         refine (HLA.out _ (HWZ.out.trans eC)).mono ?_
         rintro r w9 ⟨xa, xn, xc, ya, yn, yc, rfl, hls, hz⟩
         have hyw9 : Ext Wz w9 := Ext.trans eC hz
         have hywB := HWZ.out.trans hyw9
         have hsw9 := hyw9.size
         try have hzc := hzb
         first | have hzb := ext_block hz hzb | have hzb := ext_new hz | have hzb := ext_newd hz
         obtain ⟨⟨y0, y1⟩, x0, x1⟩ := block2 hzb
         try go_simp
         refine hK.out _ _ ?_ (fun hHeld => ?_)
         ·exact HFS.out _ eS
         clear hK K'
         try simp only [yA, yB, yC]
         refine hTk (i := 10) (d := some 91) (v := ?_) (fun o ho => ?_) hHeld ?_
         rotate_left
         ·simp only [zA, zB, zC, zD] at ho
          subst ho
          refine ⟨by rfl, fun w hSw => ?_⟩
          (try dsimp only at hSw)
          go_simp
          try with_reducible rfl
         try simp only [Act.put, yA, yB, yC]
         refine hTk (i := 11) (d := some 102) (v := ?_) (fun o ho => ?_) hHeld ?_
         rotate_left
         ·simp only [zA, zB, zC, zD] at ho
          subst ho
          refine ⟨by rfl, fun w hSw => ?_⟩
          (try dsimp only at hSw)
          go_simp
          try with_reducible rfl
         try simp only [Act.put, yA, yB, yC]
         refine hTk (i := 12) (d := some 103) (v := ?_) (fun o ho => ?_) hHeld ?_
         rotate_left
         ·simp only [zA, zB, zC, zD] at ho
          subst ho
          refine ⟨by rfl, fun w hSw => ?_⟩
          (try dsimp only at hSw)
          go_simp
          try with_reducible rfl
         try simp only [Act.put, yA, yB, yC]
         refine wpAnyH_ready (rs := [14]) (by kernel_rfl) (by simp) ?_
         refine held_step (i := 14) (by kernel_rfl) (fun o ho K' hK => ?_) ?_
         ·simp only [zA, zB, zC, zD] at ho
          subst ho
          go_simp
          refine hK.out _ _ ?_ (fun hHeld => ?_)
          ·exact HFS.out _ eS
          clear hK K'
          try simp only [yA, yB, yC]
          refine wpAnyH_ready (rs := [15]) (by kernel_rfl) (by simp) ?_
          refine held_step (i := 15) (by kernel_rfl) (fun o ho K' hK => ?_) ?_
          ·simp only [zA, zB, zC, zD] at ho
           subst ho
           go_simp
           refine hK.out _ _ ?_ (fun hHeld => ?_)
           ·exact HFS.out _ eS
           clear hK K'
           try simp only [yA, yB, yC]
           refine wpAnyH_done (by kernel_rfl) ?_ _
           try simp only [yA, yB, yC]
           clear hHeld
           go_wp2_with fail
           go_meet
           case rel => first | exact metL_after (HWZ.out.trans hyw9) hls | exact metL_before (HWZ.out.trans hyw9) (by have := HWZ.out.size; omega) hzb (by first | (simp; done) | (simp; omega) | (simp only [World.size_alloc, World.heap_drew]; omega) | (have := (Array.getElem?_eq_some_iff.1 hzc).1; omega)) hls
          exact AllReadyH.nil
         exact AllReadyH.nil
        exact AllReadyH.nil
       exact AllReadyH.nil
      refine held_step (i := 13) (by kernel_rfl) (fun o ho K' hK => ?_) ?_
      ·simp only [zA, zB, zC, zD] at ho
       subst ho
       go_simp
       refine hK.out _ _ ?_ (fun hHeld => ?_)
       ·exact HFS.out _ eS
       clear hK K'
       try simp only [yA, yB, yC]
       refine wpAnyH_ready (rs := [3]) (by kernel_rfl) (by simp) ?_
       refine held_step (i := 3) (by kernel_rfl) (fun o ho K' hK => ?_) ?_
       ·simp only [zA, zB, zC, zD] at ho
        subst ho
        go_simp
        go_at_call 25
        refine (HED.out _).mono ?_
        rintro r w3 ⟨rfl, hz⟩
        have hyw : Ext Wz w3 := Ext.trans eC hz
        have hywA := HWZ.out.trans hyw
        have hsw := hyw.size
        first | have hzb := ext_block hz hzb | have hzb := ext_new hz | have hzb := ext_newd hz
        clear hz
        try go_simp
        refine hK.out _ _ ?_ (fun hHeld => ?_)
        ·exact HFS.out _ eS
        clear hK K'
        try simp only [yA, yB, yC]
        refine hTk (i := 4) (d := some 96) (v := ?_) (fun o ho => ?_) hHeld ?_
        rotate_left
        ·simp only [zA, zB, zC, zD] at ho
         subst ho
         refine ⟨by rfl, fun w hSw => ?_⟩
         (try dsimp only at hSw)
         go_simp
         try with_reducible rfl
        try simp only [Act.put, yA, yB, yC]
        refine held_skip (i := 5) (d := some 97) (by kernel_rfl) (by kernel_rfl) (by kernel_rfl) (by kernel_rfl) (by kernel_rfl) (fun _ _ _ h => h) hHeld ?_
        try simp only [Act.put, yA, yB, yC]
        refine held_skip (i := 6) (d := some 98) (by kernel_rfl) (by kernel_rfl) (by kernel_rfl) (by kernel_rfl) (by kernel_rfl) (fun _ _ _ h => h) hHeld ?_
        try simp only [Act.put, yA, yB, yC]
        refine held_skip (i := 7) (d := some 99) (by kernel_rfl) (by kernel_rfl) (by kernel_rfl) (by kernel_rfl) (by kernel_rfl) (fun _ _ _ h => h) hHeld ?_
        try simp only [Act.put, yA, yB, yC]
        refine hTk (i := 8) (d := some 100) (v := ?_) (fun o ho => ?_) hHeld ?_
        rotate_left
        ·simp only [zA, zB, zC, zD] at ho
         subst ho
         refine ⟨by rfl, fun w hSw => ?_⟩
         (try dsimp only at hSw)
         go_simp
         try with_reducible rfl
        try simp only [Act.put, yA, yB, yC]
        refine wpAnyH_ready (rs := [9]) (by kernel_rfl) (by simp) ?_
        refine held_step (i := 9) (by kernel_rfl) (fun o ho K' hK => ?_) ?_
        ·simp only [zA, zB, zC, zD] at ho
         subst ho
         go_simp
         go_at_call 14
         refine (HLA.out _ (HWZ.out.trans eC)).mono ?_
         rintro r w9 ⟨xa, xn, xc, ya, yn, yc, rfl, hls, hz⟩
         have hyw9 : Ext Wz w9 := Ext.trans eC hz
         have hywB := HWZ.out.trans hyw9
         have hsw9 := hyw9.size
         try have hzc := hzb
         first | have hzb := ext_block hz hzb | have hzb := ext_new hz | have hzb := ext_newd hz
         obtain ⟨⟨y0, y1⟩, x0, x1⟩ := block2 hzb
         try go_simp
         refine hK.out _ _ ?_ (fun hHeld => ?_)
         ·exact HFS.out _ eS
         clear hK K'
         try simp only [yA, yB, yC]
         refine hTk (i := 10) (d := some 91) (v := ?_) (fun o ho => ?_) hHeld ?_
         rotate_left
         ·simp only [zA, zB, zC, zD] at ho
          subst ho
          refine ⟨by rfl, fun w hSw => ?_⟩
          (try dsimp only at hSw)
          go_simp
          try with_reducible rfl
         try simp only [Act.put, yA, yB, yC]
         refine hTk (i := 11) (d := some 102) (v := ?_) (fun o ho => ?_) hHeld ?_
         rotate_left
         ·simp only [zA, zB, zC, zD] at ho
          subst ho
          refine ⟨by rfl, fun w hSw => ?_⟩
          (try dsimp only at hSw)
          go_simp
          try with_reducible rfl
         try simp only [Act.put, yA, yB, yC]
         refine hTk (i := 12) (d := some 103) (v := ?_) (fun o ho => ?_) hHeld ?_
         rotate_left
         ·simp only [zA, zB, zC, zD] at ho
          subst ho
          refine ⟨by rfl, fun w hSw => ?_⟩
          (try dsimp only at hSw)
          go_simp
          try with_reducible rfl
         try simp only [Act.put, yA, yB, yC]
         refine wpAnyH_ready (rs := [14]) (by kernel_rfl) (by simp) ?_
         refine held_step (i := 14) (by kernel_rfl) (fun o ho K' hK => ?_) ?_
         ·simp only [zA, zB, zC, zD] at ho
          subst ho
          go_simp
          refine hK.out _ _ ?_ (fun hHeld => ?_)
          ·exact HFS.out _ eS
          clear hK K'
          try simp only [yA, yB, yC]
          refine wpAnyH_ready (rs := [15]) (by kernel_rfl) (by simp) ?_
          refine held_step (i := 15) (by kernel_rfl) (fun o ho K' hK => ?_) ?_
          ·simp only [zA, zB, zC, zD] at ho
           subst ho
           go_simp
           refine hK.out _ _ ?_ (fun hHeld => ?_)
           ·exact HFS.out _ eS
           clear hK K'
           try simp only [yA, yB, yC]
           refine wpAnyH_done (by kernel_rfl) ?_ _
           try simp only [yA, yB, yC]
           clear hHeld
           go_wp2_with fail
           go_meet
           case rel => first | exact metL_after (HWZ.out.trans hyw9) hls | exact metL_before (HWZ.out.trans hyw9) (by have := HWZ.out.size; omega) hzb (by first | (simp; done) | (simp; omega) | (simp only [World.size_alloc, World.heap_drew]; omega) | (have := (Array.getElem?_eq_some_iff.1 hzc).1; omega)) hls
          exact AllReadyH.nil
         exact AllReadyH.nil
        exact AllReadyH.nil
       exact AllReadyH.nil
      exact AllReadyH.nil
    | true =>
     rw [hed] at HED HZ
     rw [Bool.true_and] at HZ
     replace HLA := Lib.hid (fun W1 h => HLA.out (isNumberB b number) W1 h)
     rw [HZ] at HLA
     generalize isNumberB b number = GB at *
     clear hed HZ
     as_aux_lemma =>
      go_region_held3 (fun W' => W'.cell? ⟨w.heap.size, 0, none⟩ = some (.slice ga b.goods.length gc) ∧ W'.cell? ⟨w.heap.size, 1, none⟩ = some (.int .i64 b.editions) ∧ W'.cell? ⟨w.heap.size, 2, none⟩ = some (.int .i64 b.moves) ∧ W'.cell? ⟨w.heap.size, 3, none⟩ = some (.slice ea b.entries.length ec)) (exact HFS.out _ eS) (first | (go_at_call 25; refine (HED.out _).mono ?_; rintro r w3 ⟨rfl, hz⟩; have hyw : Ext Wz w3 := Ext.trans eC hz; have hywA := HWZ.out.trans hyw; have hsw := hyw.size; (first | have hzb := ext_block hz hzb | have hzb := ext_new hz | have hzb := ext_newd hz | skip); clear hz) | (go_at_call 26; refine (HGN.out _).mono ?_; rintro r w7 ⟨rfl, hz⟩; have hyw : Ext Wz w7 := Ext.trans eC hz; have hywA := HWZ.out.trans hyw; have hsw := hyw.size; (first | have hzb := ext_block hz hzb | have hzb := ext_new hz | have hzb := ext_newd hz | skip); clear hz) | (go_at_call 14; refine (HLA.out _ (HWZ.out.trans eC)).mono ?_; rintro r w9 ⟨xa, xn, xc, ya, yn, yc, rfl, hls, hz⟩; have hyw9 : Ext Wz w9 := Ext.trans eC hz; have hywB := HWZ.out.trans hyw9; have hsw9 := hyw9.size; (try have hzc := hzb); (first | have hzb := ext_block hz hzb | have hzb := ext_new hz | have hzb := ext_newd hz | skip); (first | (have hzd := hzb; obtain ⟨⟨y0, y1⟩, x0, x1⟩ := block2 hzd; clear hzd) | skip)))
      all_goals (go_wp2_with fail; go_meet; case rel => first | exact metL_after (HWZ.out.trans hyw9) hls | exact metL_before (HWZ.out.trans hyw9) (by have := HWZ.out.size; omega) hzb (by first | (simp; done) | (simp; omega) | (simp only [World.size_alloc, World.heap_drew]; omega) | (have := (Array.getElem?_eq_some_iff.1 hzc).1; omega)) hls)
   case rest =>
    clear HFS HWZ hq m0 b0 b1 b2 b3
    obtain ⟨blk, xa, xn, xc, ya, yn, yc, rfl, rfl, hbl, hbk, hls, hq⟩ := hcut
    obtain ⟨m0, b0, b1, b2, b3⟩ := HF.out _ hq
    obtain ⟨W2, hW2⟩ : ∃ W2 : World, W2 = wc := ⟨_, rfl⟩
    subst hW2
    have HBL := Lib.hid hbl
    have HBH := Lib.hid hbk
    have HLS := Lib.hid hls
    have HQ2 := Lib.hid hq
    obtain ⟨⟨l0, l1⟩, -⟩ := block2 hbk
    clear hbl hbk hls
    go_upto_if 105 with fail
    go_cut [] (fun wx => Ext W2 wx)
    case first =>
     clear HED HGN HGD HLA HKN HI2 HK2
     by_cases hz : Z1 = 0
     ·obtain ⟨h1, h2⟩ := ask_fine (HZ1.out.trans hz)
      rw [Bool.and_eq_true] at h2
      have hB := bookB_of h1
      have hed := h2.1
      rw [editionW hB] at hed
      obtain ⟨e0, e1⟩ := inB_iff.1 hed
      obtain ⟨n0, n1⟩ := inB_iff.1 h2.2
      obtain ⟨e, rfl⟩ : ∃ e : Nat, edition = (e : Int) := ⟨edition.toNat, by omega⟩
      obtain ⟨n, rfl⟩ : ∃ n : Nat, number = (n : Int) := ⟨number.toNat, by omega⟩
      have HRM := Lib.hid (rmeans_any _ _ b e n W2 hB (by omega) (by omega) (HBA.out W2 HQ2.out) (HLS.out hz))
      rw [gt_means (show n < b.goods.length by omega)] at HRM
      have HIM := Lib.hid (HI1.out hz)
      rw [Int.toNat_natCast] at HIM
      subst hz
      clear HZ1 HI1 HK1 h1 h2 hB hed e0 e1 n0 n1 HBA
      as_aux_lemma =>
       go_wp2_with (first
        | (go_at_call 28; refine HRM.out.mono ?_; rintro r w5 ⟨u, rfl, hu, hx5⟩; have HU := Lib.hid hu; have HX5 := Lib.hid hx5; clear hx5 hu HRM)
        | (go_at_call 27; refine (sameI_yes _ _ _ _ (HIM.out.ext (HQ2.out.trans HX5.out)) HU.out).mono ?_; rintro r w6 ⟨rfl, hx6⟩))
       go_meet
       case rel => exact HX5.out.trans hx6
     ·have t1 : (Z1 != 0) = true := by simpa using hz
      have t2 : (Z1 != Z1) = false := by simp
      have hk := HK1.out hz
      subst hk
      clear HZ1 HI1 HK1 hz HBA
      go_wp2_with fail
      go_meet
      case rel => exact Ext.refl _
    case rest =>
     clear m0 b0 b1 b2 b3 hq l0 l1 HLS HZ1 HI1 HK1
     have hq := HQ2.out.trans hcut
     obtain ⟨m0, b0, b1, b2, b3⟩ := HF.out _ hq
     obtain ⟨Wz, hWz⟩ : ∃ Wz : World, Wz = wc := ⟨_, rfl⟩
     subst hWz
     have hzb := ext_block hcut HBH.out
     have HWZ := Lib.hid hq
     have HFS := Lib.hid (fun W1 (h : Ext wA W1) => (HF.out _ h).2)
     have hsA := HWZ.out.size
     clear HBH hcut
     go_upto_region 21 with fail
     go_cut [20] (fun z wx => MetL wA b Z2 (.pointer (some ⟨blk, 0, none⟩)) z wx)
     case first =>
      have HZ := HZ2.out
      have hbl := HBL.out
      obtain ⟨⟨y0, y1⟩, x0, x1⟩ := block2 hzb
      replace HGN := HGD
      clear HKN HI2 HK2
      cases hed : isEditionW b edition with
      | false =>
       rw [hed] at HED HZ
       rw [Bool.false_and] at HZ
       replace HLA := Lib.hid (fun W1 h => HLA.out false W1 h)
       rw [HZ] at HLA
       clear hed HZ
       as_aux_lemma =>
        refine wp_region_held_drew (S := (fun W' => BoxAt W' w.heap.size (.slice ga b.goods.length gc) b (.slice ea b.entries.length ec))) (by kernel_rfl) ?_ (fun hHeld => ?_)
        ·exact HFS.out _ HWZ.out.drew
        refine hTk (i := 0) (d := some 127) (v := ?_) (fun o ho => ?_) hHeld ?_
        rotate_left
        ·simp only [zA, zB, zD] at ho
         subst ho
         refine ⟨by rfl, fun w hSw => ?_⟩
         obtain ⟨c0, c1, c2, c3⟩ := hSw
         go_simp
         try with_reducible rfl
        try simp only [Act.put, yA, yB, yC]
        refine hTk (i := 1) (d := some 128) (v := ?_) (fun o ho => ?_) hHeld ?_
        rotate_left
        ·simp only [zA, zB, zC, zD] at ho
         subst ho
         refine ⟨by rfl, fun w hSw => ?_⟩
         obtain ⟨c0, c1, c2, c3⟩ := hSw
         go_simp
         try with_reducible rfl
        try simp only [Act.put, yA, yB, yC]
        refine hTk (i := 2) (d := some 129) (v := ?_) (fun o ho => ?_) hHeld ?_
        rotate_left
        ·simp only [zA, zB, zC, zD] at ho
         subst ho
         refine ⟨by rfl, fun w hSw => ?_⟩
         (try dsimp only at hSw)
         go_simp
         try with_reducible rfl
        try simp only [Act.put, yA, yB, yC]
        refine wpAnyH_ready (rs := [3]) (by kernel_rfl) (by simp) ?_
        refine held_step (i := 3) (by kernel_rfl) (fun o ho K' hK => ?_) ?_
        ·simp only [zA, zB, zC, zD] at ho
         subst ho
         go_simp
         go_at_call 25
         refine (HED.out _).mono ?_
         rintro r w3 ⟨rfl, hz⟩
         have hyw : Ext Wz w3 := Ext.trans eC hz
         have hywA := HWZ.out.trans hyw
         have hsw := hyw.size
         have hzb := ext_block hz hzb
         clear hz
         try go_simp
         refine hK.out _ _ ?_ (fun hHeld => ?_)
         ·exact HFS.out _ eS
         clear hK K'
         try simp only [yA, yB, yC]
         refine hTk (i := 4) (d := some 131) (v := ?_) (fun o ho => ?_) hHeld ?_
         rotate_left
         ·simp only [zA, zB, zC, zD] at ho
          subst ho
          refine ⟨by rfl, fun w hSw => ?_⟩
          (try dsimp only at hSw)
          go_simp
          try with_reducible rfl
         try simp only [Act.put, yA, yB, yC]
         refine held_skip (i := 5) (d := some 132) (by kernel_rfl) (by kernel_rfl) (by kernel_rfl) (by kernel_rfl) (by kernel_rfl) (fun _ _ _ h => h) hHeld ?_
         try simp only [Act.put, yA, yB, yC]
         refine held_skip (i := 6) (d := some 133) (by kernel_rfl) (by kernel_rfl) (by kernel_rfl) (by kernel_rfl) (by kernel_rfl) (fun _ _ _ h => h) hHeld ?_
         try simp only [Act.put, yA, yB, yC]
         refine held_skip (i := 7) (d := some 134) (by kernel_rfl) (by kernel_rfl) (by kernel_rfl) (by kernel_rfl) (by kernel_rfl) (fun _ _ _ h => h) hHeld ?_
         try simp only [Act.put, yA, yB, yC]
         refine hTk (i := 8) (d := some 135) (v := ?_) (fun o ho => ?_) hHeld ?_
         rotate_left
         ·simp only [zA, zB, zC, zD] at ho
          subst ho
          refine ⟨by rfl, fun w hSw => ?_⟩
          (try dsimp only at hSw)
          go_simp
          try with_reducible rfl
         try simp only [Act.put, yA, yB, yC]
         refine wpAnyH_ready (rs := [9]) (by kernel_rfl) (by simp) ?_
         refine held_step (i := 9) (by kernel_rfl) (fun o ho K' hK => ?_) ?_
         ·simp only [zA, zB, zC, zD] at ho
          subst ho
          go_simp
          go_at_call 14
          refine (HLA.out _ (HWZ.out.trans eC)).mono ?_
          rintro r w9 ⟨xa, xn, xc, ya, yn, yc, rfl, hls, hz⟩
          have hyw9 : Ext Wz w9 := Ext.trans eC hz
          have hywB := HWZ.out.trans hyw9
          have hsw9 := hyw9.size
          try have hzc := hzb
          have hzb := ext_block hz hzb
          obtain ⟨⟨y0, y1⟩, x0, x1⟩ := block2 hzb
          try go_simp
          refine hK.out _ _ ?_ (fun hHeld => ?_)
          ·exact HFS.out _ eS
          clear hK K'
          try simp only [yA, yB, yC]
          refine hTk (i := 10) (d := some 126) (v := ?_) (fun o ho => ?_) hHeld ?_
          rotate_left
          ·simp only [zA, zB, zC, zD] at ho
           subst ho
           refine ⟨by rfl, fun w hSw => ?_⟩
           (try dsimp only at hSw)
           go_simp
           try with_reducible rfl
          try simp only [Act.put, yA, yB, yC]
          refine hTk (i := 11) (d := some 137) (v := ?_) (fun o ho => ?_) hHeld ?_
          rotate_left
          ·simp only [zA, zB, zC, zD] at ho
           subst ho
           refine ⟨by rfl, fun w hSw => ?_⟩
           (try dsimp only at hSw)
           go_simp
           try with_reducible rfl
          try simp only [Act.put, yA, yB, yC]
          refine hTk (i := 12) (d := some 138) (v := ?_) (fun o ho => ?_) hHeld ?_
          rotate_left
          ·simp only [zA, zB, zC, zD] at ho
           subst ho
           refine ⟨by rfl, fun w hSw => ?_⟩
           (try dsimp only at hSw)
           go_simp
           try with_reducible rfl
          try simp only [Act.put, yA, yB, yC]
          refine wpAnyH_ready (rs := [13]) (by kernel_rfl) (by simp) ?_
          refine held_step (i := 13) (by kernel_rfl) (fun o ho K' hK => ?_) ?_
          ·simp only [zA, zB, zC, zD] at ho
           subst ho
           go_simp
           refine hK.out _ _ ?_ (fun hHeld => ?_)
           ·exact HFS.out _ eS
           clear hK K'
           try simp only [yA, yB, yC]
           refine wpAnyH_ready (rs := [14]) (by kernel_rfl) (by simp) ?_
           refine held_step (i := 14) (by kernel_rfl) (fun o ho K' hK => ?_) ?_
           ·simp only [zA, zB, zC, zD] at ho
            subst ho
            go_simp
            refine hK.out _ _ ?_ (fun hHeld => ?_)
            ·exact HFS.out _ eS
            clear hK K'
            try simp only [yA, yB, yC]
            refine wpAnyH_done (by kernel_rfl) ?_ _
            try simp only [yA, yB, yC]
            clear hHeld
            go_wp2_with fail
            go_meet
            case rel => first | exact metL_after (HWZ.out.trans hyw9) hls | exact metL_before (HWZ.out.trans hyw9) (by have := HWZ.out.size; omega) hzb (by first | (simp; done) | (simp; omega) | (simp only [World.size_alloc, World.heap_drew]; omega) | (have := (Array.getElem?_eq_some_iff.1 hzc).1; omega)) hls
           exact AllReadyH.nil
          exact AllReadyH.nil
         exact AllReadyH.nil
        exact AllReadyH.nil
      | true =>
       rw [hed] at HED HZ
       rw [Bool.true_and] at HZ
       replace HLA := Lib.hid (fun W1 h => HLA.out (isNumberB b good) W1 h)
       rw [HZ] at HLA
       generalize isNumberB b good = GB at *
       clear hed HZ
       as_aux_lemma =>
        go_region_held3 (fun W' => W'.cell? ⟨w.heap.size, 0, none⟩ = some (.slice ga b.goods.length gc) ∧ W'.cell? ⟨w.heap.size, 1, none⟩ = some (.int .i64 b.editions) ∧ W'.cell? ⟨w.heap.size, 2, none⟩ = some (.int .i64 b.moves) ∧ W'.cell? ⟨w.heap.size, 3, none⟩ = some (.slice ea b.entries.length ec)) (exact HFS.out _ eS) (first | (go_at_call 25; refine (HED.out _).mono ?_; rintro r w3 ⟨rfl, hz⟩; have hyw : Ext Wz w3 := Ext.trans eC hz; have hywA := HWZ.out.trans hyw; have hsw := hyw.size; have hzb := ext_block hz hzb; clear hz) | (go_at_call 26; refine (HGN.out _).mono ?_; rintro r w7 ⟨rfl, hz⟩; have hyw : Ext Wz w7 := Ext.trans eC hz; have hywA := HWZ.out.trans hyw; have hsw := hyw.size; have hzb := ext_block hz hzb; clear hz) | (go_at_call 14; refine (HLA.out _ (HWZ.out.trans eC)).mono ?_; rintro r w9 ⟨xa, xn, xc, ya, yn, yc, rfl, hls, hz⟩; have hyw9 : Ext Wz w9 := Ext.trans eC hz; have hywB := HWZ.out.trans hyw9; have hsw9 := hyw9.size; (try have hzc := hzb); have hzb := ext_block hz hzb; (first | (have hzd := hzb; obtain ⟨⟨y0, y1⟩, x0, x1⟩ := block2 hzd; clear hzd) | skip)))
        all_goals (go_wp2_with fail; go_meet; case rel => first | exact metL_after (HWZ.out.trans hyw9) hls | exact metL_before (HWZ.out.trans hyw9) (by have := HWZ.out.size; omega) hzb (by first | (simp; done) | (simp; omega) | (simp only [World.size_alloc, World.heap_drew]; omega) | (have := (Array.getElem?_eq_some_iff.1 hzc).1; omega)) hls)
     case rest =>
      clear HFS HWZ hq m0 b0 b1 b2 b3 hzb HLA HED HGN HGD
      obtain ⟨blk2, xa2, xn2, xc2, ya2, yn2, yc2, hpe, rfl, hbl, hbk, hls, hq⟩ := hcut
      cases hpe
      obtain ⟨m0, b0, b1, b2, b3⟩ := HF.out _ hq
      obtain ⟨W3, hW3⟩ : ∃ W3 : World, W3 = wc := ⟨_, rfl⟩
      subst hW3
      have HQ3 := Lib.hid hq
      obtain ⟨⟨l0, l1⟩, -⟩ := block2 hbk
      by_cases hz : Z2 = 0
      ·obtain ⟨h1, h2⟩ := ask_fine (HZ2.out.trans hz)
       rw [Bool.and_eq_true] at h2
       have hB := bookB_of h1
       have hed := h2.1
       rw [editionW hB] at hed
       obtain ⟨e0, e1⟩ := inB_iff.1 hed
       obtain ⟨n0, n1⟩ := inB_iff.1 h2.2
       obtain ⟨e, rfl⟩ : ∃ e : Nat, edition = (e : Int) := ⟨edition.toNat, by omega⟩
       obtain ⟨g, rfl⟩ : ∃ g : Nat, good = (g : Int) := ⟨good.toNat, by omega⟩
       have HRM := Lib.hid (rnumbers_any _ _ b e (g : Int) W3 hB (by omega) (HBA.out W3 HQ3.out) (hls hz))
       rw [gt_numbers (show g < b.goods.length by omega)] at HRM
       have HIM := Lib.hid (HI2.out hz)
       rw [Int.toNat_natCast] at HIM
       subst hz
       clear HZ2 HI2 HK2 h1 h2 hB hed e0 e1 n0 n1 HBA hls hbk hbl HBL
       as_aux_lemma =>
        go_wp2_with (first
         | (go_at_call 29; refine HRM.out.mono ?_; rintro r w5 ⟨u, rfl, hu, hx5⟩; have HU := Lib.hid hu; have HX5 := Lib.hid (HQ3.out.trans hx5); clear hx5 hu HRM)
         | (go_at_call 27; refine (sameI_yes _ _ _ _ (HIM.out.ext HX5.out) HU.out).mono ?_; rintro r w6 ⟨rfl, hx6⟩; have HX6 := Lib.hid (HX5.out.trans hx6); clear hx6)
         | (go_at_call 11; refine (HKN.out _ HX6.out).mono ?_; rintro r w7 ⟨rfl, hx7⟩))
        go_ret
        exact ⟨rfl, HX0.out.trans (HQA.out.trans (HX6.out.trans hx7))⟩
      ·have t1 : (Z2 != 0) = true := by simpa using hz
       have t2 : (Z2 == Z2) = true := by simp
       have hk := HK2.out hz
       subst hk
       clear HZ2 HI2 HK2 hz HBA hls hbk hbl HBL
       as_aux_lemma =>
        go_wp2_with (go_at_call 11; refine (HKN.out _ HQ3.out).mono ?_; rintro r w7 ⟨rfl, hx7⟩)
        go_ret
        exact ⟨rfl, HX0.out.trans (HQA.out.trans (HQ3.out.trans hx7))⟩
end Go.Proofs.YtoohhefegfpipaaGreatDoor
