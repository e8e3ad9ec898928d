/- The law OrderTruths. -/
import Derived.Test.YtoohhefegfpipaaGreatDoorOkn
import Derived.Test.YtoohhefegfpipaaGreatDoorOas
import Derived.Test.YtoohhefegfpipaaGreatDoorLisq
import Derived.Test.YtoohhefegfpipaaGreatDoorOaq
namespace Go.Proofs.YtoohhefegfpipaaGreatDoor
open Go.RowKit
theorem askErr_two {b : Book} (h : isBookB b = true) : askErr b true = 0 ∨ askErr b true = 7 := by
 unfold askErr; rw [h]; simp only [Bool.and_self, if_true]; cases (pageB b 0).isEmpty <;> simp
theorem askErr_bad {b : Book} (h : isBookB b = false) : askErr b true = 2 := by unfold askErr; rw [h]; rfl
theorem truths_err {b : Book} {w w' : World} {e : Ending} {z : Int} (h : TruthsRes b w e w') (hz : askErr b true = z) (h0 : z ≠ 0) : e = .returned (.tuple #[.int .i64 0, .int .i64 z]) ∧ Ext w w' := by
 rcases h.2 with ⟨_, r⟩ | ⟨r, _⟩
 ·exact ⟨by rw [r, hz], h.1⟩
 ·exact absurd (hz.symm.trans r) h0
theorem truths_fine {b : Book} {w w' : World} {e : Ending} (h : TruthsRes b w e w') (hz : askErr b true = 0) : e = .returned (.tuple #[.int .i64 (truthsB b), .int .i64 0]) ∧ Ext w w' := by
 rcases h.2 with ⟨r, _⟩ | ⟨_, r⟩
 ·exact absurd hz r
 ·exact ⟨r, h.1⟩
theorem ask_err {b : Book} {w w' : World} {e : Ending} {z : Int} (h : QRes b w e w') (hz : askErr b true = z) (h0 : z ≠ 0) : e = .returned (.tuple #[.int .i64 0, .int .i64 0, .int .i64 0, .int .i64 z]) ∧ Ext w w' := by
 rcases h.2 with ⟨_, r⟩ | ⟨r, _⟩ | ⟨r, _⟩
 ·exact ⟨by rw [r, hz], h.1⟩
 ·exact absurd (hz.symm.trans r) h0
 ·exact absurd (hz.symm.trans r) h0
theorem ask_one {b : Book} {w w' : World} {e : Ending} (h : QRes b w e w') (hz : askErr b true = 0) (h1 : truthsB b = 1) : e = .returned (.tuple #[.int .i64 0, .int .i64 0, .int .i64 0, .int .i64 5]) ∧ Ext w w' := by
 rcases h.2 with ⟨r, _⟩ | ⟨_, _, r⟩ | ⟨_, r, _⟩
 ·exact absurd hz r
 ·exact ⟨r, h.1⟩
 ·exact absurd h1 r
theorem ask_many {b : Book} {w w' : World} {e : Ending} (h : QRes b w e w') (hz : askErr b true = 0) (h1 : truthsB b ≠ 1) : e = .returned (.tuple #[.int .i64 (askB b).1, .int .i64 (askB b).2.1, .int .i64 (askB b).2.2, .int .i64 0]) ∧ Ext w w' := by
 rcases h.2 with ⟨r, _⟩ | ⟨_, r, _⟩ | ⟨_, _, r⟩
 ·exact absurd hz r
 ·exact absurd r h1
 ·exact ⟨r, h.1⟩
theorem page_some' {b : Book} (h1 : isBookB b = true) (hz : askErr b true = 0) : 0 < truthsB b := by
 refine truths_pos fun hp => ?_
 unfold askErr at hz
 rw [h1, hp] at hz
 cases hz
theorem page_none' {b : Book} (h1 : isBookB b = true) (hz : askErr b true = 7) : truthsB b = 0 := by
 refine truths_zero ?_
 unfold askErr at hz
 rw [h1] at hz
 simp only [Bool.and_self, if_true] at hz
 by_cases hp : (pageB b 0).isEmpty = true
 ·exact List.isEmpty_iff.1 hp
 ·rw [if_neg hp] at hz; cases hz
set_option maxRecDepth 100000 in
set_option maxHeartbeats 16000000 in
theorem orderTruths_any (v : Value) (b : Book) (w : World) (hb : BookAt w v b) (ht : TabOk w) (hm : MaxOk w) :
  Calls Tryz.prog 3 #[v] w fun e w' => e = .returned (.bool true) ∧ Ext w w' := by
 obtain ⟨ga, gc, ea, ec, rfl, hgl, hel⟩ := hb.open
 obtain ⟨W, HW⟩ : ∃ W, Hid (W = w.alloc (bookBox (.slice ga b.goods.length gc) b (.slice ea b.entries.length ec))) := ⟨_, rfl⟩
 have HX0 := Lib.hid (show Ext w W by rw [HW.out]; exact (Ext.refl w).alloc _)
 have HF := Lib.hid (fun W1 (h : Ext W W1) => BoxAt.ext (show BoxAt W w.heap.size (.slice ga b.goods.length gc) b (.slice ea b.entries.length ec) by rw [HW.out]; exact BoxAt.new _ _ _ _) h)
 have HKN := Lib.hid (fun W1 (h : Ext W W1) => lknown_any W1 (ht.ext (HX0.out.trans h)) (hm.ext (HX0.out.trans h)))
 have HBA := Lib.hid (fun W1 (h : Ext W W1) => hb.ext (HX0.out.trans h))
 have HSH := Lib.hid (fun W1 (h : Ext W W1) => short_any _ b W1 (HBA.out W1 h))
 have HTR := Lib.hid (fun W1 (h : Ext W W1) => Truths_any _ b W1 (HBA.out W1 h))
 have HAS := Lib.hid (fun W1 (h : Ext W W1) => Ask_any _ b W1 (HBA.out W1 h))
 clear hb ht hm hgl hel
 go_enter Tryz.func3, Tryz.ntmps3
 go_upto_region 1 with fail
 rw [← HW.out]
 have hq := Ext.refl W
 obtain ⟨b0, b1, b2, b3⟩ := HF.out _ hq
 cases i0 : shortB b with
 | false =>
  rw [i0] at HSH
  clear i0 HTR HAS
  go_wp2_with (first | (go_at_call 10; refine (HSH.out _ hq).mono ?_; rintro e w' ⟨rfl, hx⟩; clear HSH; have hq := hq.trans hx; clear b0 b1 b2 b3; obtain ⟨b0, b1, b2, b3⟩ := HF.out _ hq; clear hx) | (go_at_call 11; refine (HKN.out _ hq).mono ?_; rintro e w' ⟨rfl, hx⟩; clear HKN; have hq := hq.trans hx; clear b0 b1 b2 b3; obtain ⟨b0, b1, b2, b3⟩ := HF.out _ hq; clear hx))
  go_ret
  exact ⟨rfl, HX0.out.trans hq⟩
 | true =>
 rw [i0] at HSH
 cases i1 : isBookB b with
 | false =>
  replace HTR := Lib.hid (fun W1 (h : Ext W W1) => (HTR.out W1 h).mono (fun e w' q => truths_err (z := 2) (show TruthsRes b W1 e w' from q) (askErr_bad i1) (by omega)))
  replace HAS := Lib.hid (fun W1 (h : Ext W W1) => (HAS.out W1 h).mono (fun e w' q => ask_err (z := 2) (show QRes b W1 e w' from q) (askErr_bad i1) (by omega)))
  have HLA := Lib.hid (fun W1 (h : Ext W W1) => lasked_bad _ b true W1 (HBA.out W1 h) (by rw [i1]; rfl))
  clear i0 i1
  go_wp2_with (first | (go_at_call 10; refine (HSH.out _ hq).mono ?_; rintro e w' ⟨rfl, hx⟩; clear HSH; have hq := hq.trans hx; clear b0 b1 b2 b3; obtain ⟨b0, b1, b2, b3⟩ := HF.out _ hq; clear hx) | (go_at_call 12; refine (HTR.out _ hq).mono ?_; rintro e w' ⟨rfl, hx⟩; clear HTR; have hq := hq.trans hx; clear b0 b1 b2 b3; obtain ⟨b0, b1, b2, b3⟩ := HF.out _ hq; clear hx) | (go_at_call 13; refine (HAS.out _ hq).mono ?_; rintro e w' ⟨rfl, hx⟩; clear HAS; have hq := hq.trans hx; clear b0 b1 b2 b3; obtain ⟨b0, b1, b2, b3⟩ := HF.out _ hq; clear hx) | (go_at_call 14; refine (HLA.out _ hq).mono ?_; rintro e w' ⟨rfl, hx⟩; clear HLA; have hza := (Ext.refl w').alloc (.cells #[.slice none 0 0, .slice none 0 0] 35); have hq := hq.trans (hx.trans hza); clear b0 b1 b2 b3; obtain ⟨b0, b1, b2, b3⟩ := HF.out _ hq; clear hx hza) | (go_at_call 11; refine (HKN.out _ hq).mono ?_; rintro e w' ⟨rfl, hx⟩; clear HKN; have hq := hq.trans hx; clear b0 b1 b2 b3; obtain ⟨b0, b1, b2, b3⟩ := HF.out _ hq; clear hx))
  go_ret
  exact ⟨rfl, HX0.out.trans hq⟩
 | true =>
 have hB := bookB_of i1
 have HRT := Lib.hid (fun (u : Value) W1 (_ : Ext W W1) (hu : ListsAt W1 u b) => rtruths_any u b W1 hB hu)
 have HRA := Lib.hid (fun (u : Value) W1 (h : Ext W W1) (hu : ListsAt W1 u b) => rask_any _ u b W1 hB (HBA.out W1 h) hu)
 rcases askErr_two i1 with hz | hz
 rotate_left
 ·have hT0 := page_none' i1 hz
  have HLA := Lib.hid (fun W1 (h : Ext W W1) => lasked_ok _ b W1 (HBA.out W1 h) i1 7 (by rw [if_pos hT0]))
  replace HTR := Lib.hid (fun W1 (h : Ext W W1) => (HTR.out W1 h).mono (fun e w' q => truths_err (z := 7) (show TruthsRes b W1 e w' from q) hz (by omega)))
  replace HAS := Lib.hid (fun W1 (h : Ext W W1) => (HAS.out W1 h).mono (fun e w' q => ask_err (z := 7) (show QRes b W1 e w' from q) hz (by omega)))
  clear i0 i1 hB HRT HRA hz hT0
  go_wp2_with (first | (go_at_call 10; refine (HSH.out _ hq).mono ?_; rintro e w' ⟨rfl, hx⟩; clear HSH; have hq := hq.trans hx; clear b0 b1 b2 b3; obtain ⟨b0, b1, b2, b3⟩ := HF.out _ hq; clear hx) | (go_at_call 12; refine (HTR.out _ hq).mono ?_; rintro e w' ⟨rfl, hx⟩; clear HTR; have hq := hq.trans hx; clear b0 b1 b2 b3; obtain ⟨b0, b1, b2, b3⟩ := HF.out _ hq; clear hx) | (go_at_call 13; refine (HAS.out _ hq).mono ?_; rintro e w' ⟨rfl, hx⟩; clear HAS; have hq := hq.trans hx; clear b0 b1 b2 b3; obtain ⟨b0, b1, b2, b3⟩ := HF.out _ hq; clear hx) | (go_at_call 14; refine (HLA.out _ hq).mono ?_; rintro e w' ⟨aa, ac, ma, mc, rfl, hl, hx⟩; clear HLA; have hza := (Ext.refl w').alloc (.cells #[.slice aa (permsB b).length ac, .slice ma b.editions.toNat mc] 35); have y0 : (w'.alloc (.cells #[.slice aa (permsB b).length ac, .slice ma b.editions.toNat mc] 35)).cell? ⟨w'.heap.size, 0, none⟩ = some (.slice aa (permsB b).length ac) := (by go_simp); have y1 : (w'.alloc (.cells #[.slice aa (permsB b).length ac, .slice ma b.editions.toNat mc] 35)).cell? ⟨w'.heap.size, 1, none⟩ = some (.slice ma b.editions.toNat mc) := (by go_simp); have HL9 := Lib.hid (hl.ext hza); have hq := hq.trans (hx.trans hza); clear b0 b1 b2 b3; obtain ⟨b0, b1, b2, b3⟩ := HF.out _ hq; clear hx hza hl) | (go_at_call 11; refine (HKN.out _ hq).mono ?_; rintro e w' ⟨rfl, hx⟩; clear HKN; have hq := hq.trans hx; clear b0 b1 b2 b3; obtain ⟨b0, b1, b2, b3⟩ := HF.out _ hq; clear hx))
  go_ret
  exact ⟨rfl, HX0.out.trans hq⟩
 have hT0 := page_some' i1 hz
 have HLA := Lib.hid (fun W1 (h : Ext W W1) => lasked_ok _ b W1 (HBA.out W1 h) i1 0 (by rw [if_neg (by omega)]))
 replace HTR := Lib.hid (fun W1 (h : Ext W W1) => (HTR.out W1 h).mono (fun e w' q => truths_fine (show TruthsRes b W1 e w' from q) hz))
 have t2 : (truthsB b != truthsB b) = false := by simp
 by_cases h1 : truthsB b = 1
 ·replace HAS := Lib.hid (fun W1 (h : Ext W W1) => (HAS.out W1 h).mono (fun e w' q => ask_one (show QRes b W1 e w' from q) hz h1))
  rw [h1] at HTR HRT
  clear i0 i1 hB HRA hz hT0 h1 t2
  go_wp2_with (first | (go_at_call 10; refine (HSH.out _ hq).mono ?_; rintro e w' ⟨rfl, hx⟩; clear HSH; have hq := hq.trans hx; clear b0 b1 b2 b3; obtain ⟨b0, b1, b2, b3⟩ := HF.out _ hq; clear hx) | (go_at_call 12; refine (HTR.out _ hq).mono ?_; rintro e w' ⟨rfl, hx⟩; clear HTR; have hq := hq.trans hx; clear b0 b1 b2 b3; obtain ⟨b0, b1, b2, b3⟩ := HF.out _ hq; clear hx) | (go_at_call 13; refine (HAS.out _ hq).mono ?_; rintro e w' ⟨rfl, hx⟩; clear HAS; have hq := hq.trans hx; clear b0 b1 b2 b3; obtain ⟨b0, b1, b2, b3⟩ := HF.out _ hq; clear hx) | (go_at_call 14; refine (HLA.out _ hq).mono ?_; rintro e w' ⟨aa, ac, ma, mc, rfl, hl, hx⟩; clear HLA; have hza := (Ext.refl w').alloc (.cells #[.slice aa (permsB b).length ac, .slice ma b.editions.toNat mc] 35); have y0 : (w'.alloc (.cells #[.slice aa (permsB b).length ac, .slice ma b.editions.toNat mc] 35)).cell? ⟨w'.heap.size, 0, none⟩ = some (.slice aa (permsB b).length ac) := (by go_simp); have y1 : (w'.alloc (.cells #[.slice aa (permsB b).length ac, .slice ma b.editions.toNat mc] 35)).cell? ⟨w'.heap.size, 1, none⟩ = some (.slice ma b.editions.toNat mc) := (by go_simp); have HL9 := Lib.hid (hl.ext hza); have hq := hq.trans (hx.trans hza); clear b0 b1 b2 b3; obtain ⟨b0, b1, b2, b3⟩ := HF.out _ hq; clear hx hza hl) | (go_at_call 15; refine (HRT.out _ _ hq HL9.out).mono ?_; rintro e w' ⟨rfl, hx⟩; clear HRT; have hq := hq.trans hx; clear b0 b1 b2 b3; obtain ⟨b0, b1, b2, b3⟩ := HF.out _ hq; replace HL9 := Lib.hid (HL9.out.ext hx); have y0 := hx.cell y0; have y1 := hx.cell y1; clear hx) | (go_at_call 11; refine (HKN.out _ hq).mono ?_; rintro e w' ⟨rfl, hx⟩; clear HKN; have hq := hq.trans hx; clear b0 b1 b2 b3; obtain ⟨b0, b1, b2, b3⟩ := HF.out _ hq; clear hx))
  go_ret
  exact ⟨rfl, HX0.out.trans hq⟩
 replace HAS := Lib.hid (fun W1 (h : Ext W W1) => (HAS.out W1 h).mono (fun e w' q => ask_many (show QRes b W1 e w' from q) hz h1))
 have t3 : (truthsB b == 1) = false := by simpa using h1
 have t4 : ((askB b).1 == (askB b).1) = true := by simp
 have t5 : ((askB b).2.1 == (askB b).2.1) = true := by simp
 have t6 : ((askB b).2.2 == (askB b).2.2) = true := by simp
 generalize (askB b).1 = X at *
 generalize (askB b).2.1 = Y at *
 generalize (askB b).2.2 = Z at *
 generalize truthsB b = T at *
 clear i0 i1 hB hz hT0 h1
 go_wp2_with (first | (go_at_call 10; refine (HSH.out _ hq).mono ?_; rintro e w' ⟨rfl, hx⟩; clear HSH; have hq := hq.trans hx; clear b0 b1 b2 b3; obtain ⟨b0, b1, b2, b3⟩ := HF.out _ hq; clear hx) | (go_at_call 12; refine (HTR.out _ hq).mono ?_; rintro e w' ⟨rfl, hx⟩; clear HTR; have hq := hq.trans hx; clear b0 b1 b2 b3; obtain ⟨b0, b1, b2, b3⟩ := HF.out _ hq; clear hx) | (go_at_call 13; refine (HAS.out _ hq).mono ?_; rintro e w' ⟨rfl, hx⟩; clear HAS; have hq := hq.trans hx; clear b0 b1 b2 b3; obtain ⟨b0, b1, b2, b3⟩ := HF.out _ hq; clear hx) | (go_at_call 14; refine (HLA.out _ hq).mono ?_; rintro e w' ⟨aa, ac, ma, mc, rfl, hl, hx⟩; clear HLA; have hza := (Ext.refl w').alloc (.cells #[.slice aa (permsB b).length ac, .slice ma b.editions.toNat mc] 35); have y0 : (w'.alloc (.cells #[.slice aa (permsB b).length ac, .slice ma b.editions.toNat mc] 35)).cell? ⟨w'.heap.size, 0, none⟩ = some (.slice aa (permsB b).length ac) := (by go_simp); have y1 : (w'.alloc (.cells #[.slice aa (permsB b).length ac, .slice ma b.editions.toNat mc] 35)).cell? ⟨w'.heap.size, 1, none⟩ = some (.slice ma b.editions.toNat mc) := (by go_simp); have HL9 := Lib.hid (hl.ext hza); have hq := hq.trans (hx.trans hza); clear b0 b1 b2 b3; obtain ⟨b0, b1, b2, b3⟩ := HF.out _ hq; clear hx hza hl) | (go_at_call 15; refine (HRT.out _ _ hq HL9.out).mono ?_; rintro e w' ⟨rfl, hx⟩; clear HRT; have hq := hq.trans hx; clear b0 b1 b2 b3; obtain ⟨b0, b1, b2, b3⟩ := HF.out _ hq; replace HL9 := Lib.hid (HL9.out.ext hx); have y0 := hx.cell y0; have y1 := hx.cell y1; clear hx) | (go_at_call 16; refine (HRA.out _ _ hq HL9.out).mono ?_; rintro e w' ⟨rfl, hx⟩; clear HRA; have hq := hq.trans hx; clear b0 b1 b2 b3; obtain ⟨b0, b1, b2, b3⟩ := HF.out _ hq; replace HL9 := Lib.hid (HL9.out.ext hx); have y0 := hx.cell y0; have y1 := hx.cell y1; clear hx) | (go_at_call 11; refine (HKN.out _ hq).mono ?_; rintro e w' ⟨rfl, hx⟩; clear HKN; have hq := hq.trans hx; clear b0 b1 b2 b3; obtain ⟨b0, b1, b2, b3⟩ := HF.out _ hq; clear hx))
 go_ret
 exact ⟨rfl, HX0.out.trans hq⟩
end Go.Proofs.YtoohhefegfpipaaGreatDoor
