/- OrderAsked: what is left after each answer; the theorem of questions. -/
import Derived.Test.YtpebafaigldldaaGreatDoorOmor
import Derived.Test.YtpebafaigldldaaGreatDoorOlq
namespace Go.Proofs.YtpebafaigldldaaGreatDoor
open Go.RowKit
theorem page_some' {b : Book} (h1 : isBookB b = true) (hz : askErr b true = 0) : 0 < truthsB b := by
 refine truths_pos fun hp => ?_
 unfold askErr at hz
 rw [h1, hp] at hz
 cases hz
theorem page_none' {b : Book} (h1 : isBookB b = true) (hz : askErr b true = 7) : truthsB b = 0 := by
 refine truths_zero ?_
 unfold askErr at hz
 rw [h1] at hz
 simp only [Bool.and_self, if_true] at hz
 by_cases hp : (pageB b 0).isEmpty = true
 ·exact List.isEmpty_iff.1 hp
 ·rw [if_neg hp] at hz; cases hz
theorem told_err {b : Book} (hB : BookB b) (h7 : b.entries.length < 8) {e n g : Int} (he : isEditionB b e = true) (hn : isNumberB b n = true) (hg : isNumberB b g = true) : isBookB (toldB b e n g) = true := (told_book hB h7 he hn hg).is
set_option maxRecDepth 100000 in
set_option maxHeartbeats 8000000 in
theorem left_any (v : Value) (b : Book) (E : Nat) (n : Int) (w : World) (hB : BookB b) (h7 : b.entries.length < 8) (he : (E : Int) < b.editions) (hn : isNumberB b n = true) (hb : BookAt w v b) :
 Calls Tryz.prog 24 #[v, .int .i64 (E : Int), .int .i64 n] w fun e w' => e = .returned (.tuple #[.int .i64 (worstB b E n), .int .i64 (truthsB b)]) ∧ Ext w w' := by
 have heB : isEditionB b (E : Int) = true := inB_iff.2 ⟨by omega, by omega⟩
 have hn' := inB_iff.1 hn
 have HWA := Lib.hid (And.intro (most_all b E n) (all_all he hn'.1 (show n < b.goods.length by omega)))
 have HTB := Lib.hid (fun g (hg : isNumberB b g = true) => told_err hB h7 heB hn hg)
 have HTT := Lib.hid (fun g : Int => told_truths (b := b) he n g)
 have HBD := Lib.hid (fun k : Nat => And.intro (most_nonneg b E n k) (And.intro (most_le hB he n k) (all_bd hB he n k)))
 have HLB := Lib.hid (fun g : Int => (show 0 ≤ leftB b E n g ∧ leftB b E n g ≤ 1728000 from ⟨left_nonneg b E n g, Int.le_trans (left_le he n g) (truths_max hB).2⟩))
 have hg5 := hB.g5
 have HBA := Lib.hid (fun W1 (h : Ext w W1) => hb.ext h)
 obtain ⟨ga, gc, ea, ec, rfl, hgl, hel⟩ := hb.open
 obtain ⟨W, hW⟩ : ∃ W, W = w.alloc (bookBox (.slice ga b.goods.length gc) b (.slice ea b.entries.length ec)) := ⟨_, rfl⟩
 have hx0 : Ext w W := by rw [hW]; exact (Ext.refl w).alloc _
 have HX0 := Lib.hid hx0
 have HF := Lib.hid (fun W1 (h : Ext W W1) => BoxAt.ext (show BoxAt W w.heap.size (.slice ga b.goods.length gc) b (.slice ea b.entries.length ec) by rw [hW]; exact BoxAt.new _ _ _ _) h)
 have HTO := Lib.hid (fun W1 (h : Ext W W1) (g : Int) => told_any _ b (E : Int) n g W1 (HBA.out W1 (HX0.out.trans h)) (by omega))
 clear hb hB h7 he hn heB hn' hx0
 go_enter Tryz.func24, Tryz.ntmps24
 go_upto_region 1 with fail
 rw [← hW]
 clear hW
 go_wp2
 go_loopw [8, 9, 10] (fun m a i wr => ∃ k : Nat, k ≤ b.goods.length ∧ i = .int .i64 (k : Int) ∧ m = .int .i64 (mostTo b E n k) ∧ a = .int .i64 (allTo b E n k) ∧ Ext W wr) (fun _ _ i _ => b.goods.length - (intOf i).toNat)
 case atStart => exact ⟨0, Nat.zero_le _, rfl, by simp [mostTo, leftsTo], by simp [allTo, leftsTo], Ext.refl _⟩
 case round =>
  obtain ⟨k, hk, rfl, rfl, rfl, hx⟩ := hrel
  obtain ⟨b0, b1, b2, b3⟩ := HF.out _ hx
  by_cases hlt : k < b.goods.length
  ·have x1 : decide ((k : Int) < (b.goods.length : Int)) = true := by simpa using hlt
   have hms := most_succ (b := b) (e := E) (n := n) hlt
   have hal := all_succ (b := b) (e := E) (n := n) hlt
   obtain ⟨d0, d1, d2⟩ := HBD.out k
   obtain ⟨l0, l1⟩ := HLB.out (k : Int)
   have htt := HTT.out (k : Int)
   have hbk := HTB.out (k : Int) (inB_iff.2 ⟨by omega, by omega⟩)
   have HTK := Lib.hid (HTO.out _ hx (k : Int))
   have HX := Lib.hid hx
   generalize mostTo b E n k = M at *
   generalize allTo b E n k = A at *
   generalize leftB b E n (k : Int) = L at *
   rcases askErr_two hbk with hz | hz
   ·have HTR := Lib.hid (fun (v : Value) W1 (hv : BookAt W1 v (toldB b (E : Int) n (k : Int))) => (Truths_any v _ W1 hv).mono (fun e w' q => truths_some (show TruthsRes (toldB b (E : Int) n (k : Int)) W1 e w' from q) hz))
    rw [htt] at HTR
    have hl1 : 1 ≤ L := by rw [← htt]; exact page_some' hbk hz
    have g1 : decide ((1 : Int) ≤ L) = true := by simpa using hl1
    have g2 : decide (L ≤ 10000000) = true := by simp; omega
    have hw : IntKind.i64.wrap (A + L) = A + L := IntWalk.i64_in _ (by omega)
    have HAL := Lib.hid hal
    have HMS := Lib.hid hms
    clear hms hal hz htt hbk l0 l1 d0 d1 d2 hl1 hx
    go_wp2_with (first | (go_at_call 39; refine HTK.out.mono ?_; rintro e w1 ⟨ta, tc, sa, sc, rfl, hx1, hti, hte⟩; clear HTK; have HTR := Lib.hid (HTR.out (.agg #[.slice ta b.goods.length tc, .int .i64 b.editions, .int .i64 b.moves, .slice sa (b.entries.length + 1) sc]) w1 ⟨_, _, rfl, hti, hte⟩); clear hti hte) | (go_at_call 16; refine HTR.out.mono ?_; rintro e w2 ⟨rfl, hx2⟩; clear HTR))
    exact ⟨⟨k + 1, by omega, by go_num, by rw [HMS.out], by rw [HAL.out], HX.out.trans (hx1.trans hx2)⟩, by simp [intOf]; omega⟩
   ·have HTR := Lib.hid (fun (v : Value) W1 (hv : BookAt W1 v (toldB b (E : Int) n (k : Int))) => (Truths_any v _ W1 hv).mono (fun e w' q => truths_none (show TruthsRes (toldB b (E : Int) n (k : Int)) W1 e w' from q) hz))
    have hl0 : L = 0 := by rw [← htt]; exact page_none' hbk hz
    have HAL : Hid (allTo b E n (k + 1) = A) := by unfold Hid; rw [hal, hl0, Int.add_zero]
    have HMS : Hid (mostTo b E n (k + 1) = M) := by unfold Hid; rw [hms, hl0]; omega
    clear hms hal hz htt hbk l0 l1 d0 d1 d2 hl0 hx
    go_wp2_with (first | (go_at_call 39; refine HTK.out.mono ?_; rintro e w1 ⟨ta, tc, sa, sc, rfl, hx1, hti, hte⟩; clear HTK; have HTR := Lib.hid (HTR.out (.agg #[.slice ta b.goods.length tc, .int .i64 b.editions, .int .i64 b.moves, .slice sa (b.entries.length + 1) sc]) w1 ⟨_, _, rfl, hti, hte⟩); clear hti hte) | (go_at_call 16; refine HTR.out.mono ?_; rintro e w2 ⟨rfl, hx2⟩; clear HTR))
    exact ⟨⟨k + 1, by omega, by go_num, by rw [HMS.out], by rw [HAL.out], HX.out.trans (hx1.trans hx2)⟩, by simp [intOf]; omega⟩
  ·have x1 : decide ((k : Int) < (b.goods.length : Int)) = false := by simpa using hlt
   have hke : k = b.goods.length := by omega
   rw [hke, HWA.out.1, HWA.out.2]
   have HX := Lib.hid hx
   have x2 : ¬ k < b.goods.length := hlt
   clear hke hx
   go_wp2
   go_ret2
   exact ⟨rfl, HX0.out.trans HX.out⟩
theorem ask_none {b : Book} {w w' : World} {e : Ending} (h : QRes b w e w') (hz : askErr b true = 7) : e = .returned (.tuple #[.int .i64 0, .int .i64 0, .int .i64 0, .int .i64 7]) ∧ Ext w w' := by
 rcases h.2 with ⟨_, r⟩ | ⟨r, _⟩ | ⟨r, _⟩
 ·exact ⟨by rw [r, hz], h.1⟩
 ·omega
 ·omega
theorem ask_one {b : Book} {w w' : World} {e : Ending} (h : QRes b w e w') (hz : askErr b true = 0) (h1 : truthsB b = 1) : e = .returned (.tuple #[.int .i64 0, .int .i64 0, .int .i64 0, .int .i64 5]) ∧ Ext w w' := by
 rcases h.2 with ⟨r, _⟩ | ⟨_, _, r⟩ | ⟨_, r, _⟩
 ·exact absurd hz r
 ·exact ⟨r, h.1⟩
 ·exact absurd h1 r
theorem ask_more {b : Book} {w w' : World} {e : Ending} (h : QRes b w e w') (hz : askErr b true = 0) (h1 : truthsB b ≠ 1) {E N : Nat} (ha : askB b = ((E : Int), (N : Int), worstB b E N)) : e = .returned (.tuple #[.int .i64 (E : Int), .int .i64 (N : Int), .int .i64 (worstB b E N), .int .i64 0]) ∧ Ext w w' := by
 rcases h.2 with ⟨r, _⟩ | ⟨_, r, _⟩ | ⟨_, _, r⟩
 ·exact absurd hz r
 ·exact absurd r h1
 ·rw [ha] at r
  exact ⟨r, h.1⟩
set_option maxRecDepth 100000 in
set_option maxHeartbeats 16000000 in
theorem orderAsked_any (v : Value) (b : Book) (edition number : Int) (w : World) (hb : BookAt w v b) (ht : TabOk w) (hm : MaxOk w) :
  Calls Tryz.prog 4 #[v, .int .i64 edition, .int .i64 number] w fun e w' => e = .returned (.bool true) ∧ Ext w w' := by
 obtain ⟨ga, gc, ea, ec, rfl, hgl, hel⟩ := hb.open
 obtain ⟨W, HW⟩ : ∃ W, Hid (W = w.alloc (bookBox (.slice ga b.goods.length gc) b (.slice ea b.entries.length ec))) := ⟨_, rfl⟩
 have HX0 := Lib.hid (show Ext w W by rw [HW.out]; exact (Ext.refl w).alloc _)
 have HF := Lib.hid (fun W1 (h : Ext W W1) => BoxAt.ext (show BoxAt W w.heap.size (.slice ga b.goods.length gc) b (.slice ea b.entries.length ec) by rw [HW.out]; exact BoxAt.new _ _ _ _) h)
 have HKN := Lib.hid (fun W1 (h : Ext W W1) => lknown_any W1 (ht.ext (HX0.out.trans h)) (hm.ext (HX0.out.trans h)))
 have HBA := Lib.hid (fun W1 (h : Ext W W1) => hb.ext (HX0.out.trans h))
 have HSH := Lib.hid (fun W1 (h : Ext W W1) => short_any _ b W1 (HBA.out W1 h))
 have HBK := Lib.hid (fun W1 (h : Ext W W1) => rbook_any _ b W1 (HBA.out W1 h))
 have HED := Lib.hid (fun W1 (_ : Ext W W1) => redition_any ga ea b.goods.length gc b.entries.length ec b edition W1)
 have HGN := Lib.hid (fun W1 (_ : Ext W W1) => rgood_any ga ea gc b.entries.length ec b number W1 hgl)
 clear hb ht hm
 go_enter Tryz.func4, Tryz.ntmps4
 go_upto_region 1 with fail
 rw [← HW.out]
 have hq := Ext.refl W
 obtain ⟨b0, b1, b2, b3⟩ := HF.out _ hq
 cases i0 : shortB b with
 | false =>
  rw [i0] at HSH
  clear i0
  go_wp2_with (first | (go_at_call 14; refine (HSH.out _ hq).mono ?_; rintro e w' ⟨rfl, hx⟩; clear HSH; have hq := hq.trans hx; clear hx; obtain ⟨b0, b1, b2, b3⟩ := HF.out _ hq) | (go_at_call 15; refine (HKN.out _ hq).mono ?_; rintro e w' ⟨rfl, hx⟩; clear HKN; have hq := hq.trans hx; clear hx; obtain ⟨b0, b1, b2, b3⟩ := HF.out _ hq))
  go_ret
  exact ⟨rfl, HX0.out.trans hq⟩
 | true =>
 rw [i0] at HSH
 cases i1 : isBookB b with
 | false =>
  rw [i1] at HBK
  clear i0 i1
  go_wp2_with (first | (go_at_call 14; refine (HSH.out _ hq).mono ?_; rintro e w' ⟨rfl, hx⟩; clear HSH; have hq := hq.trans hx; clear hx; obtain ⟨b0, b1, b2, b3⟩ := HF.out _ hq) | (go_at_call 21; refine (HBK.out _ hq).mono ?_; rintro e w' ⟨rfl, hx⟩; clear HBK; have hq := hq.trans hx; clear hx; obtain ⟨b0, b1, b2, b3⟩ := HF.out _ hq) | (go_at_call 15; refine (HKN.out _ hq).mono ?_; rintro e w' ⟨rfl, hx⟩; clear HKN; have hq := hq.trans hx; clear hx; obtain ⟨b0, b1, b2, b3⟩ := HF.out _ hq))
  go_ret
  exact ⟨rfl, HX0.out.trans hq⟩
 | true =>
 rw [i1] at HBK
 by_cases i2 : 8 ≤ b.entries.length
 ·have t1 : decide ((8 : Int) ≤ (b.entries.length : Int)) = true := by simp; omega
  clear i0 i1 i2
  go_wp2_with (first | (go_at_call 14; refine (HSH.out _ hq).mono ?_; rintro e w' ⟨rfl, hx⟩; clear HSH; have hq := hq.trans hx; clear hx; obtain ⟨b0, b1, b2, b3⟩ := HF.out _ hq) | (go_at_call 21; refine (HBK.out _ hq).mono ?_; rintro e w' ⟨rfl, hx⟩; clear HBK; have hq := hq.trans hx; clear hx; obtain ⟨b0, b1, b2, b3⟩ := HF.out _ hq) | (go_at_call 15; refine (HKN.out _ hq).mono ?_; rintro e w' ⟨rfl, hx⟩; clear HKN; have hq := hq.trans hx; clear hx; obtain ⟨b0, b1, b2, b3⟩ := HF.out _ hq))
  go_ret
  exact ⟨rfl, HX0.out.trans hq⟩
 have t1 : decide ((8 : Int) ≤ (b.entries.length : Int)) = false := by simp; omega
 cases i4 : isEditionW b edition with
 | false =>
  rw [i4] at HED
  clear i0 i1 i2 i4
  go_wp2_with (first | (go_at_call 14; refine (HSH.out _ hq).mono ?_; rintro e w' ⟨rfl, hx⟩; clear HSH; have hq := hq.trans hx; clear hx; obtain ⟨b0, b1, b2, b3⟩ := HF.out _ hq) | (go_at_call 21; refine (HBK.out _ hq).mono ?_; rintro e w' ⟨rfl, hx⟩; clear HBK; have hq := hq.trans hx; clear hx; obtain ⟨b0, b1, b2, b3⟩ := HF.out _ hq) | (go_at_call 22; refine (HED.out _ hq).mono ?_; rintro e w' ⟨rfl, hx⟩; clear HED; have hq := hq.trans hx; clear hx; obtain ⟨b0, b1, b2, b3⟩ := HF.out _ hq) | (go_at_call 15; refine (HKN.out _ hq).mono ?_; rintro e w' ⟨rfl, hx⟩; clear HKN; have hq := hq.trans hx; clear hx; obtain ⟨b0, b1, b2, b3⟩ := HF.out _ hq))
  go_ret
  exact ⟨rfl, HX0.out.trans hq⟩
 | true =>
 rw [i4] at HED
 cases i5 : isNumberB b number with
 | false =>
  rw [i5] at HGN
  clear i0 i1 i2 i4 i5
  go_wp2_with (first | (go_at_call 14; refine (HSH.out _ hq).mono ?_; rintro e w' ⟨rfl, hx⟩; clear HSH; have hq := hq.trans hx; clear hx; obtain ⟨b0, b1, b2, b3⟩ := HF.out _ hq) | (go_at_call 21; refine (HBK.out _ hq).mono ?_; rintro e w' ⟨rfl, hx⟩; clear HBK; have hq := hq.trans hx; clear hx; obtain ⟨b0, b1, b2, b3⟩ := HF.out _ hq) | (go_at_call 22; refine (HED.out _ hq).mono ?_; rintro e w' ⟨rfl, hx⟩; clear HED; have hq := hq.trans hx; clear hx; obtain ⟨b0, b1, b2, b3⟩ := HF.out _ hq) | (go_at_call 23; refine (HGN.out _ hq).mono ?_; rintro e w' ⟨rfl, hx⟩; clear HGN; have hq := hq.trans hx; clear hx; obtain ⟨b0, b1, b2, b3⟩ := HF.out _ hq) | (go_at_call 15; refine (HKN.out _ hq).mono ?_; rintro e w' ⟨rfl, hx⟩; clear HKN; have hq := hq.trans hx; clear hx; obtain ⟨b0, b1, b2, b3⟩ := HF.out _ hq))
  go_ret
  exact ⟨rfl, HX0.out.trans hq⟩
 | true =>
 rw [i5] at HGN
 have hB := bookB_of i1
 have hed := editionW hB edition
 rw [i4] at hed
 obtain ⟨ed0, ed1⟩ := inB_iff.1 hed.symm
 obtain ⟨nu0, nu1⟩ := inB_iff.1 i5
 obtain ⟨e, rfl⟩ : ∃ e : Nat, edition = (e : Int) := ⟨edition.toNat, by omega⟩
 obtain ⟨n, rfl⟩ : ∃ n : Nat, number = (n : Int) := ⟨number.toNat, by omega⟩
 have he : (e : Int) < b.editions := by omega
 have hn : n < b.goods.length := by omega
 have HL1 := Lib.hid (fun W1 (h : Ext W W1) => left_any _ b e (n : Int) W1 hB (by omega) he i5 (HBA.out W1 h))
 have HTR := Lib.hid (fun W1 (h : Ext W W1) => Truths_any _ b W1 (HBA.out W1 h))
 have HAS := Lib.hid (fun W1 (h : Ext W W1) => Ask_any _ b W1 (HBA.out W1 h))
 obtain ⟨E, N, ha, hE, hN, hle, hlt⟩ := ask_law hB he hn
 have HED2 := Lib.hid (fun W1 (_ : Ext W W1) => redition_any ga ea b.goods.length gc b.entries.length ec b (E : Int) W1)
 have HGN2 := Lib.hid (fun W1 (_ : Ext W W1) => rgood_any ga ea gc b.entries.length ec b (N : Int) W1 hgl)
 have hNb : isNumberB b (N : Int) = true := inB_iff.2 ⟨by omega, by omega⟩
 have hEb : isEditionW b (E : Int) = true := by rw [editionW hB]; exact inB_iff.2 ⟨by omega, by omega⟩
 rw [hEb] at HED2
 rw [hNb] at HGN2
 have HL2 := Lib.hid (fun W1 (h : Ext W W1) => left_any _ b E (N : Int) W1 hB (by omega) hE hNb (HBA.out W1 h))
 have t2 : (truthsB b != truthsB b) = false := by simp
 rcases askErr_two i1 with hz | hz
 rotate_left
 ·have hT0 := page_none' i1 hz
  replace HTR := Lib.hid (fun W1 (h : Ext W W1) => (HTR.out W1 h).mono (fun e w' q => truths_none (show TruthsRes b W1 e w' from q) hz))
  replace HAS := Lib.hid (fun W1 (h : Ext W W1) => (HAS.out W1 h).mono (fun e w' q => ask_none (show QRes b W1 e w' from q) hz))
  rw [hT0] at HL1
  generalize worstB b e (n : Int) = X at *
  clear HED2 HGN2 HL2 hz hT0 hle hlt ha hE hN hNb hEb hB hed ed0 ed1 nu0 nu1 he hn i0 i1 i2 i4 i5 t2
  go_wp2_with (first | (go_at_call 14; refine (HSH.out _ hq).mono ?_; rintro e w' ⟨rfl, hx⟩; clear HSH; have hq := hq.trans hx; clear hx; obtain ⟨b0, b1, b2, b3⟩ := HF.out _ hq) | (go_at_call 21; refine (HBK.out _ hq).mono ?_; rintro e w' ⟨rfl, hx⟩; clear HBK; have hq := hq.trans hx; clear hx; obtain ⟨b0, b1, b2, b3⟩ := HF.out _ hq) | (go_at_call 22; refine (HED.out _ hq).mono ?_; rintro e w' ⟨rfl, hx⟩; clear HED; have hq := hq.trans hx; clear hx; obtain ⟨b0, b1, b2, b3⟩ := HF.out _ hq) | (go_at_call 23; refine (HGN.out _ hq).mono ?_; rintro e w' ⟨rfl, hx⟩; clear HGN; have hq := hq.trans hx; clear hx; obtain ⟨b0, b1, b2, b3⟩ := HF.out _ hq) | (go_at_call 16; refine (HTR.out _ hq).mono ?_; rintro e w' ⟨rfl, hx⟩; clear HTR; have hq := hq.trans hx; clear hx; obtain ⟨b0, b1, b2, b3⟩ := HF.out _ hq) | (go_at_call 17; refine (HAS.out _ hq).mono ?_; rintro e w' ⟨rfl, hx⟩; clear HAS; have hq := hq.trans hx; clear hx; obtain ⟨b0, b1, b2, b3⟩ := HF.out _ hq) | (go_at_call 24; refine (HL1.out _ hq).mono ?_; rintro e w' ⟨rfl, hx⟩; clear HL1; have hq := hq.trans hx; clear hx; obtain ⟨b0, b1, b2, b3⟩ := HF.out _ hq) | (go_at_call 15; refine (HKN.out _ hq).mono ?_; rintro e w' ⟨rfl, hx⟩; clear HKN; have hq := hq.trans hx; clear hx; obtain ⟨b0, b1, b2, b3⟩ := HF.out _ hq))
  go_ret
  exact ⟨rfl, HX0.out.trans hq⟩
 replace HTR := Lib.hid (fun W1 (h : Ext W W1) => (HTR.out W1 h).mono (fun e w' q => truths_some (show TruthsRes b W1 e w' from q) hz))
 by_cases h1 : truthsB b = 1
 ·replace HAS := Lib.hid (fun W1 (h : Ext W W1) => (HAS.out W1 h).mono (fun e w' q => ask_one (show QRes b W1 e w' from q) hz h1))
  rw [h1] at HL1 HTR
  generalize worstB b e (n : Int) = X at *
  clear HED2 HGN2 HL2 hz h1 hle hlt ha hE hN hNb hEb hB hed ed0 ed1 nu0 nu1 he hn i0 i1 i2 i4 i5 t2
  go_wp2_with (first | (go_at_call 14; refine (HSH.out _ hq).mono ?_; rintro e w' ⟨rfl, hx⟩; clear HSH; have hq := hq.trans hx; clear hx; obtain ⟨b0, b1, b2, b3⟩ := HF.out _ hq) | (go_at_call 21; refine (HBK.out _ hq).mono ?_; rintro e w' ⟨rfl, hx⟩; clear HBK; have hq := hq.trans hx; clear hx; obtain ⟨b0, b1, b2, b3⟩ := HF.out _ hq) | (go_at_call 22; refine (HED.out _ hq).mono ?_; rintro e w' ⟨rfl, hx⟩; clear HED; have hq := hq.trans hx; clear hx; obtain ⟨b0, b1, b2, b3⟩ := HF.out _ hq) | (go_at_call 23; refine (HGN.out _ hq).mono ?_; rintro e w' ⟨rfl, hx⟩; clear HGN; have hq := hq.trans hx; clear hx; obtain ⟨b0, b1, b2, b3⟩ := HF.out _ hq) | (go_at_call 16; refine (HTR.out _ hq).mono ?_; rintro e w' ⟨rfl, hx⟩; clear HTR; have hq := hq.trans hx; clear hx; obtain ⟨b0, b1, b2, b3⟩ := HF.out _ hq) | (go_at_call 17; refine (HAS.out _ hq).mono ?_; rintro e w' ⟨rfl, hx⟩; clear HAS; have hq := hq.trans hx; clear hx; obtain ⟨b0, b1, b2, b3⟩ := HF.out _ hq) | (go_at_call 24; refine (HL1.out _ hq).mono ?_; rintro e w' ⟨rfl, hx⟩; clear HL1; have hq := hq.trans hx; clear hx; obtain ⟨b0, b1, b2, b3⟩ := HF.out _ hq) | (go_at_call 15; refine (HKN.out _ hq).mono ?_; rintro e w' ⟨rfl, hx⟩; clear HKN; have hq := hq.trans hx; clear hx; obtain ⟨b0, b1, b2, b3⟩ := HF.out _ hq))
  go_ret
  exact ⟨rfl, HX0.out.trans hq⟩
 replace HAS := Lib.hid (fun W1 (h : Ext W W1) => (HAS.out W1 h).mono (fun e w' q => ask_more (show QRes b W1 e w' from q) hz h1 ha))
 have t3 : (truthsB b == 1) = false := by simpa using h1
 have hlt2 : (e : Int) < (E : Int) ∨ (e : Int) = (E : Int) ∧ (n : Int) < (N : Int) → worstB b E (N : Int) < worstB b e (n : Int) := fun h => hlt (by omega)
 have t4 : decide (worstB b E (N : Int) ≤ worstB b e (n : Int)) = true := by simpa using hle
 have t5 : (worstB b E (N : Int) == worstB b E (N : Int)) = true := by simp
 generalize worstB b e (n : Int) = X at *
 generalize worstB b E (N : Int) = Y at *
 generalize truthsB b = T at *
 clear hz h1 hle hlt ha hE hN hNb hEb hB hed ed0 ed1 nu0 nu1 he hn i0 i1 i2 i4 i5
 generalize ((e : Nat) : Int) = e at *
 generalize ((E : Nat) : Int) = E at *
 generalize ((n : Nat) : Int) = n at *
 generalize ((N : Nat) : Int) = N at *
 by_cases k1 : e < E
 ·have t6 : decide (e < E) = true := by simpa using k1
  have t7 : decide (Y < X) = true := by simpa using hlt2 (.inl k1)
  clear hlt2 k1
  go_wp2_with (first | (go_at_call 14; refine (HSH.out _ hq).mono ?_; rintro e w' ⟨rfl, hx⟩; clear HSH; have hq := hq.trans hx; clear hx; obtain ⟨b0, b1, b2, b3⟩ := HF.out _ hq) | (go_at_call 21; refine (HBK.out _ hq).mono ?_; rintro e w' ⟨rfl, hx⟩; clear HBK; have hq := hq.trans hx; clear hx; obtain ⟨b0, b1, b2, b3⟩ := HF.out _ hq) | (go_at_call 22; refine (HED.out _ hq).mono ?_; rintro e w' ⟨rfl, hx⟩; clear HED; have hq := hq.trans hx; clear hx; obtain ⟨b0, b1, b2, b3⟩ := HF.out _ hq) | (go_at_call 23; refine (HGN.out _ hq).mono ?_; rintro e w' ⟨rfl, hx⟩; clear HGN; have hq := hq.trans hx; clear hx; obtain ⟨b0, b1, b2, b3⟩ := HF.out _ hq) | (go_at_call 16; refine (HTR.out _ hq).mono ?_; rintro e w' ⟨rfl, hx⟩; clear HTR; have hq := hq.trans hx; clear hx; obtain ⟨b0, b1, b2, b3⟩ := HF.out _ hq) | (go_at_call 17; refine (HAS.out _ hq).mono ?_; rintro e w' ⟨rfl, hx⟩; clear HAS; have hq := hq.trans hx; clear hx; obtain ⟨b0, b1, b2, b3⟩ := HF.out _ hq) | (go_at_call 24; refine (HL1.out _ hq).mono ?_; rintro e w' ⟨rfl, hx⟩; clear HL1; have hq := hq.trans hx; clear hx; obtain ⟨b0, b1, b2, b3⟩ := HF.out _ hq) | (go_at_call 22; refine (HED2.out _ hq).mono ?_; rintro e w' ⟨rfl, hx⟩; clear HED2; have hq := hq.trans hx; clear hx; obtain ⟨b0, b1, b2, b3⟩ := HF.out _ hq) | (go_at_call 23; refine (HGN2.out _ hq).mono ?_; rintro e w' ⟨rfl, hx⟩; clear HGN2; have hq := hq.trans hx; clear hx; obtain ⟨b0, b1, b2, b3⟩ := HF.out _ hq) | (go_at_call 24; refine (HL2.out _ hq).mono ?_; rintro e w' ⟨rfl, hx⟩; clear HL2; have hq := hq.trans hx; clear hx; obtain ⟨b0, b1, b2, b3⟩ := HF.out _ hq) | (go_at_call 15; refine (HKN.out _ hq).mono ?_; rintro e w' ⟨rfl, hx⟩; clear HKN; have hq := hq.trans hx; clear hx; obtain ⟨b0, b1, b2, b3⟩ := HF.out _ hq))
  go_ret
  exact ⟨rfl, HX0.out.trans hq⟩
 have t6 : decide (e < E) = false := by simpa using k1
 by_cases k2 : e = E
 rotate_left
 ·have t7 : (e == E) = false := by simpa using k2
  clear hlt2 k1 k2
  by_cases k5 : Y < X
  ·have t8 : decide (Y < X) = true := by simpa using k5
   clear k5
   go_wp2_with (first | (go_at_call 14; refine (HSH.out _ hq).mono ?_; rintro e w' ⟨rfl, hx⟩; clear HSH; have hq := hq.trans hx; clear hx; obtain ⟨b0, b1, b2, b3⟩ := HF.out _ hq) | (go_at_call 21; refine (HBK.out _ hq).mono ?_; rintro e w' ⟨rfl, hx⟩; clear HBK; have hq := hq.trans hx; clear hx; obtain ⟨b0, b1, b2, b3⟩ := HF.out _ hq) | (go_at_call 22; refine (HED.out _ hq).mono ?_; rintro e w' ⟨rfl, hx⟩; clear HED; have hq := hq.trans hx; clear hx; obtain ⟨b0, b1, b2, b3⟩ := HF.out _ hq) | (go_at_call 23; refine (HGN.out _ hq).mono ?_; rintro e w' ⟨rfl, hx⟩; clear HGN; have hq := hq.trans hx; clear hx; obtain ⟨b0, b1, b2, b3⟩ := HF.out _ hq) | (go_at_call 16; refine (HTR.out _ hq).mono ?_; rintro e w' ⟨rfl, hx⟩; clear HTR; have hq := hq.trans hx; clear hx; obtain ⟨b0, b1, b2, b3⟩ := HF.out _ hq) | (go_at_call 17; refine (HAS.out _ hq).mono ?_; rintro e w' ⟨rfl, hx⟩; clear HAS; have hq := hq.trans hx; clear hx; obtain ⟨b0, b1, b2, b3⟩ := HF.out _ hq) | (go_at_call 24; refine (HL1.out _ hq).mono ?_; rintro e w' ⟨rfl, hx⟩; clear HL1; have hq := hq.trans hx; clear hx; obtain ⟨b0, b1, b2, b3⟩ := HF.out _ hq) | (go_at_call 22; refine (HED2.out _ hq).mono ?_; rintro e w' ⟨rfl, hx⟩; clear HED2; have hq := hq.trans hx; clear hx; obtain ⟨b0, b1, b2, b3⟩ := HF.out _ hq) | (go_at_call 23; refine (HGN2.out _ hq).mono ?_; rintro e w' ⟨rfl, hx⟩; clear HGN2; have hq := hq.trans hx; clear hx; obtain ⟨b0, b1, b2, b3⟩ := HF.out _ hq) | (go_at_call 24; refine (HL2.out _ hq).mono ?_; rintro e w' ⟨rfl, hx⟩; clear HL2; have hq := hq.trans hx; clear hx; obtain ⟨b0, b1, b2, b3⟩ := HF.out _ hq) | (go_at_call 15; refine (HKN.out _ hq).mono ?_; rintro e w' ⟨rfl, hx⟩; clear HKN; have hq := hq.trans hx; clear hx; obtain ⟨b0, b1, b2, b3⟩ := HF.out _ hq))
   go_ret
   exact ⟨rfl, HX0.out.trans hq⟩
  ·have t8 : decide (Y < X) = false := by simpa using k5
   clear k5
   go_wp2_with (first | (go_at_call 14; refine (HSH.out _ hq).mono ?_; rintro e w' ⟨rfl, hx⟩; clear HSH; have hq := hq.trans hx; clear hx; obtain ⟨b0, b1, b2, b3⟩ := HF.out _ hq) | (go_at_call 21; refine (HBK.out _ hq).mono ?_; rintro e w' ⟨rfl, hx⟩; clear HBK; have hq := hq.trans hx; clear hx; obtain ⟨b0, b1, b2, b3⟩ := HF.out _ hq) | (go_at_call 22; refine (HED.out _ hq).mono ?_; rintro e w' ⟨rfl, hx⟩; clear HED; have hq := hq.trans hx; clear hx; obtain ⟨b0, b1, b2, b3⟩ := HF.out _ hq) | (go_at_call 23; refine (HGN.out _ hq).mono ?_; rintro e w' ⟨rfl, hx⟩; clear HGN; have hq := hq.trans hx; clear hx; obtain ⟨b0, b1, b2, b3⟩ := HF.out _ hq) | (go_at_call 16; refine (HTR.out _ hq).mono ?_; rintro e w' ⟨rfl, hx⟩; clear HTR; have hq := hq.trans hx; clear hx; obtain ⟨b0, b1, b2, b3⟩ := HF.out _ hq) | (go_at_call 17; refine (HAS.out _ hq).mono ?_; rintro e w' ⟨rfl, hx⟩; clear HAS; have hq := hq.trans hx; clear hx; obtain ⟨b0, b1, b2, b3⟩ := HF.out _ hq) | (go_at_call 24; refine (HL1.out _ hq).mono ?_; rintro e w' ⟨rfl, hx⟩; clear HL1; have hq := hq.trans hx; clear hx; obtain ⟨b0, b1, b2, b3⟩ := HF.out _ hq) | (go_at_call 22; refine (HED2.out _ hq).mono ?_; rintro e w' ⟨rfl, hx⟩; clear HED2; have hq := hq.trans hx; clear hx; obtain ⟨b0, b1, b2, b3⟩ := HF.out _ hq) | (go_at_call 23; refine (HGN2.out _ hq).mono ?_; rintro e w' ⟨rfl, hx⟩; clear HGN2; have hq := hq.trans hx; clear hx; obtain ⟨b0, b1, b2, b3⟩ := HF.out _ hq) | (go_at_call 24; refine (HL2.out _ hq).mono ?_; rintro e w' ⟨rfl, hx⟩; clear HL2; have hq := hq.trans hx; clear hx; obtain ⟨b0, b1, b2, b3⟩ := HF.out _ hq) | (go_at_call 15; refine (HKN.out _ hq).mono ?_; rintro e w' ⟨rfl, hx⟩; clear HKN; have hq := hq.trans hx; clear hx; obtain ⟨b0, b1, b2, b3⟩ := HF.out _ hq))
   go_ret
   exact ⟨rfl, HX0.out.trans hq⟩
 have t7 : (e == E) = true := by simpa using k2
 by_cases k3 : n < N
 ·have t8 : decide (n < N) = true := by simpa using k3
  have t9 : decide (Y < X) = true := by simpa using hlt2 (.inr ⟨k2, k3⟩)
  clear hlt2 k1 k2 k3
  go_wp2_with (first | (go_at_call 14; refine (HSH.out _ hq).mono ?_; rintro e w' ⟨rfl, hx⟩; clear HSH; have hq := hq.trans hx; clear hx; obtain ⟨b0, b1, b2, b3⟩ := HF.out _ hq) | (go_at_call 21; refine (HBK.out _ hq).mono ?_; rintro e w' ⟨rfl, hx⟩; clear HBK; have hq := hq.trans hx; clear hx; obtain ⟨b0, b1, b2, b3⟩ := HF.out _ hq) | (go_at_call 22; refine (HED.out _ hq).mono ?_; rintro e w' ⟨rfl, hx⟩; clear HED; have hq := hq.trans hx; clear hx; obtain ⟨b0, b1, b2, b3⟩ := HF.out _ hq) | (go_at_call 23; refine (HGN.out _ hq).mono ?_; rintro e w' ⟨rfl, hx⟩; clear HGN; have hq := hq.trans hx; clear hx; obtain ⟨b0, b1, b2, b3⟩ := HF.out _ hq) | (go_at_call 16; refine (HTR.out _ hq).mono ?_; rintro e w' ⟨rfl, hx⟩; clear HTR; have hq := hq.trans hx; clear hx; obtain ⟨b0, b1, b2, b3⟩ := HF.out _ hq) | (go_at_call 17; refine (HAS.out _ hq).mono ?_; rintro e w' ⟨rfl, hx⟩; clear HAS; have hq := hq.trans hx; clear hx; obtain ⟨b0, b1, b2, b3⟩ := HF.out _ hq) | (go_at_call 24; refine (HL1.out _ hq).mono ?_; rintro e w' ⟨rfl, hx⟩; clear HL1; have hq := hq.trans hx; clear hx; obtain ⟨b0, b1, b2, b3⟩ := HF.out _ hq) | (go_at_call 22; refine (HED2.out _ hq).mono ?_; rintro e w' ⟨rfl, hx⟩; clear HED2; have hq := hq.trans hx; clear hx; obtain ⟨b0, b1, b2, b3⟩ := HF.out _ hq) | (go_at_call 23; refine (HGN2.out _ hq).mono ?_; rintro e w' ⟨rfl, hx⟩; clear HGN2; have hq := hq.trans hx; clear hx; obtain ⟨b0, b1, b2, b3⟩ := HF.out _ hq) | (go_at_call 24; refine (HL2.out _ hq).mono ?_; rintro e w' ⟨rfl, hx⟩; clear HL2; have hq := hq.trans hx; clear hx; obtain ⟨b0, b1, b2, b3⟩ := HF.out _ hq) | (go_at_call 15; refine (HKN.out _ hq).mono ?_; rintro e w' ⟨rfl, hx⟩; clear HKN; have hq := hq.trans hx; clear hx; obtain ⟨b0, b1, b2, b3⟩ := HF.out _ hq))
  go_ret
  exact ⟨rfl, HX0.out.trans hq⟩
 ·have t8 : decide (n < N) = false := by simpa using k3
  clear hlt2 k1 k2 k3
  by_cases k5 : Y < X
  ·have t9 : decide (Y < X) = true := by simpa using k5
   clear k5
   go_wp2_with (first | (go_at_call 14; refine (HSH.out _ hq).mono ?_; rintro e w' ⟨rfl, hx⟩; clear HSH; have hq := hq.trans hx; clear hx; obtain ⟨b0, b1, b2, b3⟩ := HF.out _ hq) | (go_at_call 21; refine (HBK.out _ hq).mono ?_; rintro e w' ⟨rfl, hx⟩; clear HBK; have hq := hq.trans hx; clear hx; obtain ⟨b0, b1, b2, b3⟩ := HF.out _ hq) | (go_at_call 22; refine (HED.out _ hq).mono ?_; rintro e w' ⟨rfl, hx⟩; clear HED; have hq := hq.trans hx; clear hx; obtain ⟨b0, b1, b2, b3⟩ := HF.out _ hq) | (go_at_call 23; refine (HGN.out _ hq).mono ?_; rintro e w' ⟨rfl, hx⟩; clear HGN; have hq := hq.trans hx; clear hx; obtain ⟨b0, b1, b2, b3⟩ := HF.out _ hq) | (go_at_call 16; refine (HTR.out _ hq).mono ?_; rintro e w' ⟨rfl, hx⟩; clear HTR; have hq := hq.trans hx; clear hx; obtain ⟨b0, b1, b2, b3⟩ := HF.out _ hq) | (go_at_call 17; refine (HAS.out _ hq).mono ?_; rintro e w' ⟨rfl, hx⟩; clear HAS; have hq := hq.trans hx; clear hx; obtain ⟨b0, b1, b2, b3⟩ := HF.out _ hq) | (go_at_call 24; refine (HL1.out _ hq).mono ?_; rintro e w' ⟨rfl, hx⟩; clear HL1; have hq := hq.trans hx; clear hx; obtain ⟨b0, b1, b2, b3⟩ := HF.out _ hq) | (go_at_call 22; refine (HED2.out _ hq).mono ?_; rintro e w' ⟨rfl, hx⟩; clear HED2; have hq := hq.trans hx; clear hx; obtain ⟨b0, b1, b2, b3⟩ := HF.out _ hq) | (go_at_call 23; refine (HGN2.out _ hq).mono ?_; rintro e w' ⟨rfl, hx⟩; clear HGN2; have hq := hq.trans hx; clear hx; obtain ⟨b0, b1, b2, b3⟩ := HF.out _ hq) | (go_at_call 24; refine (HL2.out _ hq).mono ?_; rintro e w' ⟨rfl, hx⟩; clear HL2; have hq := hq.trans hx; clear hx; obtain ⟨b0, b1, b2, b3⟩ := HF.out _ hq) | (go_at_call 15; refine (HKN.out _ hq).mono ?_; rintro e w' ⟨rfl, hx⟩; clear HKN; have hq := hq.trans hx; clear hx; obtain ⟨b0, b1, b2, b3⟩ := HF.out _ hq))
   go_ret
   exact ⟨rfl, HX0.out.trans hq⟩
  ·have t9 : decide (Y < X) = false := by simpa using k5
   clear k5
   go_wp2_with (first | (go_at_call 14; refine (HSH.out _ hq).mono ?_; rintro e w' ⟨rfl, hx⟩; clear HSH; have hq := hq.trans hx; clear hx; obtain ⟨b0, b1, b2, b3⟩ := HF.out _ hq) | (go_at_call 21; refine (HBK.out _ hq).mono ?_; rintro e w' ⟨rfl, hx⟩; clear HBK; have hq := hq.trans hx; clear hx; obtain ⟨b0, b1, b2, b3⟩ := HF.out _ hq) | (go_at_call 22; refine (HED.out _ hq).mono ?_; rintro e w' ⟨rfl, hx⟩; clear HED; have hq := hq.trans hx; clear hx; obtain ⟨b0, b1, b2, b3⟩ := HF.out _ hq) | (go_at_call 23; refine (HGN.out _ hq).mono ?_; rintro e w' ⟨rfl, hx⟩; clear HGN; have hq := hq.trans hx; clear hx; obtain ⟨b0, b1, b2, b3⟩ := HF.out _ hq) | (go_at_call 16; refine (HTR.out _ hq).mono ?_; rintro e w' ⟨rfl, hx⟩; clear HTR; have hq := hq.trans hx; clear hx; obtain ⟨b0, b1, b2, b3⟩ := HF.out _ hq) | (go_at_call 17; refine (HAS.out _ hq).mono ?_; rintro e w' ⟨rfl, hx⟩; clear HAS; have hq := hq.trans hx; clear hx; obtain ⟨b0, b1, b2, b3⟩ := HF.out _ hq) | (go_at_call 24; refine (HL1.out _ hq).mono ?_; rintro e w' ⟨rfl, hx⟩; clear HL1; have hq := hq.trans hx; clear hx; obtain ⟨b0, b1, b2, b3⟩ := HF.out _ hq) | (go_at_call 22; refine (HED2.out _ hq).mono ?_; rintro e w' ⟨rfl, hx⟩; clear HED2; have hq := hq.trans hx; clear hx; obtain ⟨b0, b1, b2, b3⟩ := HF.out _ hq) | (go_at_call 23; refine (HGN2.out _ hq).mono ?_; rintro e w' ⟨rfl, hx⟩; clear HGN2; have hq := hq.trans hx; clear hx; obtain ⟨b0, b1, b2, b3⟩ := HF.out _ hq) | (go_at_call 24; refine (HL2.out _ hq).mono ?_; rintro e w' ⟨rfl, hx⟩; clear HL2; have hq := hq.trans hx; clear hx; obtain ⟨b0, b1, b2, b3⟩ := HF.out _ hq) | (go_at_call 15; refine (HKN.out _ hq).mono ?_; rintro e w' ⟨rfl, hx⟩; clear HKN; have hq := hq.trans hx; clear hx; obtain ⟨b0, b1, b2, b3⟩ := HF.out _ hq))
   go_ret
   exact ⟨rfl, HX0.out.trans hq⟩
end Go.Proofs.YtpebafaigldldaaGreatDoor
