/- The reference's Read. -/
import Derived.Test.YtdmdabhdcpjkiaaGreatDoorReadp
import Derived.Test.YtdmdabhdcpjkiaaGreatDoorRsaid
import Derived.Test.YtdmdabhdcpjkiaaGreatDoorRprint
namespace Go.Proofs.YtdmdabhdcpjkiaaGreatDoor
open Go.RowKit
/-- What the reference's Read answers. -/
def RReadPost (s : List UInt8) (w : World) (e : Ending) (w' : World) : Prop := ∃ (v : Value) (bo : Bool) (b : Book), e = .returned (.tuple #[v, .bool bo]) ∧ Ext w w' ∧ BookAt w' v b ∧ (bo = true → TextOf s b) ∧ (bo = false → ¬ ∃ q, TextOf s q)
theorem zero_book (W : World) : BookAt W (.agg #[.int .i64 0, .slice none 0 0]) zeroB := ⟨_, rfl, [], rfl, RowOf.nil _ _, (by intro x hx; exact absurd hx (by simp))⟩
theorem years_le {s : List UInt8} (h : toldOk wBook 2 (lineAt s 0) = true) : yearsOf s ≤ 999 := by
 obtain ⟨h1, h2, _⟩ := told_line h
 obtain ⟨y, n, e⟩ := two_of h1
 rw [e] at h2
 have := h2 y (by simp)
 unfold yearsOf
 rw [e]; simp; omega
set_option maxRecDepth 100000 in
set_option maxHeartbeats 16000000 in
theorem rread_any (s : List UInt8) (w : World) (hs : s.length ≤ 300) : Calls Tryz.prog 29 #[strV s] w (RReadPost s w) := by
 have HSP := Lib.hid (fun w1 => rsplit_any s 10 w1 (by omega))
 have HSD := Lib.hid (fun i word w1 => rsaid_any (lineAt s i) word w1 (by have := lineAt_short s i; omega))
 have HPR := Lib.hid (fun v b w1 (hr : BookAt w1 v b) (hB : TextB b) => rprint_any v b w1 hr hB)
 have HG := Lib.hid (fun i (hi : i < (splitL 10 s).length) => lineAt_get (s := s) (i := i) hi)
 have HFAIL : Hid (∀ W, Ext w W → (¬ ∃ q, TextOf s q) → RReadPost s w (.returned (.tuple #[.agg #[.int .i64 0, .slice none 0 0], .bool false])) W) := fun W hW hno => ⟨_, false, zeroB, rfl, hW, zero_book W, (by intro h; cases h), fun _ => hno⟩
 have hpos : 0 < (splitL 10 s).length := List.length_pos_iff.2 (splitL_ne 10 s)
 have hpc := split_count 10 s
 obtain ⟨K, hK⟩ : ∃ K, (splitL 10 s).length = K + 1 := ⟨(splitL 10 s).length - 1, by omega⟩
 have HK := Lib.hid hK
 rw [hK] at HSP hpc
 have hK3 : K ≤ 300 := by omega
 clear hK hpos hpc
 have hx0 : Ext w ((w.alloc (.cells #[.int .i64 0, .slice none 0 0] 24)).alloc (.cells #[.int .i64 0, .slice none 0 0] 24)) := ((Ext.refl w).alloc _).alloc _
 have HX0 := Lib.hid hx0
 have h1 := World.alloc_heap_new (w.alloc (.cells #[.int .i64 0, .slice none 0 0] 24)) (.cells #[.int .i64 0, .slice none 0 0] 24)
 rw [World.size_alloc] at h1
 have h0 := (((Ext.refl (w.alloc (.cells #[.int .i64 0, .slice none 0 0] 24))).alloc (.cells #[.int .i64 0, .slice none 0 0] 24)).block (b := w.heap.size) (by simp)).trans (World.alloc_heap_new w (.cells #[.int .i64 0, .slice none 0 0] 24))
 have HB0 := Lib.hid (And.intro h0 h1)
 clear hx0 h0 h1
 go_enter Tryz.func29, Tryz.ntmps29
 go_wp2_with (go_at_call 67; refine (HSP.out _).mono ?_; rintro e w1 ⟨v, rfl, hx1, hown⟩; obtain ⟨b, bcap, rfl⟩ := owns_succ hown)
 have hbb := owns_block hown b rfl
 have HST : Hid (∀ i, i < K + 1 → w1.cell? ⟨b, i, none⟩ = some (strV (lineAt s i))) := fun i hi => by
  have := hown.cellAt i (by omega)
  rw [this, List.getElem?_map, HG.out i (by rw [HK.out]; exact hi)]; rfl
 have hbne : ¬ b = w.heap.size + 1 := by simp at hbb; omega
 have hsz1 : w.heap.size + 2 ≤ w1.heap.size := by have := hx1.size; simp at this; omega
 have HR1 := Lib.hid ((hx1.block (Array.getElem?_eq_some_iff.1 HB0.out.1).1).trans HB0.out.1)
 have HB1 := Lib.hid ((hx1.block (Array.getElem?_eq_some_iff.1 HB0.out.2).1).trans HB0.out.2)
 have HXW := Lib.hid (HX0.out.trans hx1)
 clear hx1 hown hbb HB0 HX0
 go_loopw [6] (fun i wr => ∃ (k : Nat) (yv : Int) (rv : Value) (xs : List (Value × River)), k ≤ K - 1 ∧ i = .int .i64 k ∧ Hid (xs.map Prod.snd = (upTo s k).rivers ∧ yv = (upTo s k).years) ∧ Hid (wr.heap[w.heap.size + 1]? = some (.cells #[.int .i64 yv, rv] 24 (0, 0))) ∧ Hid (wr.ownsRow w1.heap.size 73 3 rv xs.length (xs.flatMap riverC)) ∧ Hid (∀ x, x ∈ xs → PairsAt wr x.1 x.2.grow ∧ OffV (fun i => i ≤ w.heap.size + 1 ∨ rv.ownBlock = some i ∨ wr.heap.size ≤ i) x.1) ∧ Hid (upOk s k) ∧ Hid (Touch (· = w.heap.size + 1) w1 wr)) (fun i _ => K + 1 - (intOf i).toNat)
 case atStart => exact ⟨0, 0, .slice none 0 0, [], Nat.zero_le _, rfl, ⟨rfl, rfl⟩, HB1, (by exact World.ownsRow_nil _ _ _ _), (by intro x hx; exact absurd hx (by simp)), upOk_zero s, Touch.refl _ _⟩
 case round =>
  clear HB1
  obtain ⟨k, yv, rv, xs, hk, rfl, hxs, hbx, hown, hpa, hall, htr⟩ := hrel
  obtain ⟨wo, rfl⟩ : ∃ wo : World, wo = wr := ⟨_, rfl⟩
  have hrz := htr.out.keep w.heap.size _ HR1.out (by omega)
  have HXO := Lib.hid (Touch.ext HXW.out htr.out (fun i hi => by omega))
  by_cases hlt : k + 1 < K
  ·have z1 := htr.out.cell (HST.out k (by omega)) hbne
   have E1 : IntKind.i64.wrap ((k : Int) + 2) = (k : Int) + 2 := IntWalk.i64_in _ (by omega)
   have x1 : decide ((k : Int) + 2 < (K : Int) + 1) = true := by simp; omega
   have x1' : decide ((k : Int) + 2 < ((K + 1 : Nat) : Int)) = true := by simp; omega
   have x2 : (k : Int) < (K : Int) + 1 := by omega
   have x3 : (0 : Int) ≤ (k : Int) := by omega
   have HRZ := Lib.hid hrz
   clear hrz
   rcases Nat.eq_zero_or_pos k with h0 | h0
   ·subst h0
    have k0 : (((0 : Nat) : Int) == 0) = true := rfl
    go_upto_region 10 with (go_at_call 68; refine (HSD.out 0 wBook _).mono ?_; rintro e w6 ⟨v8, bo, ns, rfl, hx6, hv8, htd, hns⟩)
    have hz6 := (hx6.block (Array.getElem?_eq_some_iff.1 HRZ.out).1).trans HRZ.out
    have hb6 := (hx6.block (Array.getElem?_eq_some_iff.1 hbx.out).1).trans hbx.out
    obtain ⟨z0, f0⟩ := block_cell hz6 (i := 0) rfl
    obtain ⟨q0, q1⟩ := block_cell hz6 (i := 1) rfl
    obtain ⟨p0, p1⟩ := block_cell hb6 (i := 0) rfl
    have HX6 := Lib.hid hx6
    have HB6 := Lib.hid hb6
    have ht2 := htd 2
    clear hz6 hb6 hx6 z1 htd
    cases htk : toldOk wBook 2 (lineAt s 0) with
    | false =>
     rw [htk] at ht2
     have HNO := Lib.hid (rread_no0 (s := s) (by rw [HK.out]; omega) htk)
     obtain ⟨na, nc, rfl, _⟩ := RowAt.open (RowAt.of_owns hv8)
     clear htk hv8 hns
     cases bo with
     | false =>
      clear ht2
      go_wp2
      refine bodyPost_ret (v := .tuple #[.agg #[.int .i64 0, .slice none 0 0], .bool false]) (by simp [results, Tryz.results29, go_sem, *]) rfl (HFAIL.out _ ?_ HNO.out)
      exact ((HXO.out.trans HX6.out).setCell (p := ⟨w.heap.size, 0, none⟩) (Nat.le_refl _) _).setCell (p := ⟨w.heap.size, 1, none⟩) (Nat.le_refl _) _
     | true =>
      have hl : ns.length ≠ 2 := by simpa using ht2.symm
      clear ht2
      by_cases h2 : ns.length < 2
      ·have d1 : decide ((ns.length : Int) < 2) = true := by simp; omega
       clear hl h2
       go_wp2
       refine bodyPost_ret (v := .tuple #[.agg #[.int .i64 0, .slice none 0 0], .bool false]) (by simp [results, Tryz.results29, go_sem, *]) rfl (HFAIL.out _ ?_ HNO.out)
       exact ((HXO.out.trans HX6.out).setCell (p := ⟨w.heap.size, 0, none⟩) (Nat.le_refl _) _).setCell (p := ⟨w.heap.size, 1, none⟩) (Nat.le_refl _) _
      ·have d1 : decide ((ns.length : Int) < 2) = false := by simp; omega
       have d2 : ((ns.length : Int) != 2) = true := by rw [bne_iff_ne]; omega
       clear hl h2
       go_wp2
       refine bodyPost_ret (v := .tuple #[.agg #[.int .i64 0, .slice none 0 0], .bool false]) (by simp [results, Tryz.results29, go_sem, *]) rfl (HFAIL.out _ ?_ HNO.out)
       exact ((HXO.out.trans HX6.out).setCell (p := ⟨w.heap.size, 0, none⟩) (Nat.le_refl _) _).setCell (p := ⟨w.heap.size, 1, none⟩) (Nat.le_refl _) _
    | true =>
     rw [htk] at ht2
     obtain ⟨hbo, hl⟩ : bo = true ∧ ns.length = 2 := by simpa using ht2.symm
     subst hbo
     have hnt := hns rfl
     obtain ⟨y, n, rfl⟩ := two_of hl
     obtain ⟨nb, nc, rfl⟩ := owns_succ (show w6.ownsRow wo.heap.size 3 1 v8 (1 + 1) _ from hv8)
     have a0 : w6.cell? ⟨nb, 0, none⟩ = some (.int .i64 y) := hv8.cellAt 0 (by simp)
     have hy0 := (told_line htk).2.1
     rw [← hnt] at hy0
     have hy := hy0 y (by simp)
     have HYR : Hid (xs = [] ∧ y = (yearsOf s : Int)) := by
      refine ⟨?_, ?_⟩
      ·have h := hxs.out.1
       rwa [show (upTo s 0).rivers = [] from rfl, List.map_eq_nil_iff] at h
      ·unfold yearsOf; rw [← hnt]; simp; omega
     have HTK := Lib.hid htk
     clear ht2 hl hnt hy0 hy htk hv8 hns
     go_wp2
     obtain ⟨rfl, hyy⟩ := HYR.out
     refine ⟨⟨1, y, rv, [], by omega, by go_num, ⟨rfl, hyy⟩, setCell_block (i := 0) HB6.out, ?_, (by intro x hx; exact absurd hx (by simp)), upOk_one HTK.out, (htr.out.trans (Touch.of_ext HX6.out)).trans (Touch.setCell _ rfl)⟩, by simp [intOf]⟩
     exact owns_touch (owns_ext hown.out HX6.out) (Touch.setCell (M := (· = w.heap.size + 1)) (a := ⟨w.heap.size + 1, 0, none⟩) _ rfl) (fun g hg e => by have := owns_block hown.out g hg; omega)
   ·have k0 : ((k : Int) == 0) = false := by rw [beq_eq_false_iff_ne]; omega
    have k1 : decide ((0 : Int) < (k : Int)) = true := by simp; omega
    obtain ⟨j0, hj0⟩ : ∃ j0, k = j0 + 1 := ⟨k - 1, by omega⟩
    have hq0 := hall.out.1 h0
    have hY9 := years_le hq0
    obtain ⟨Y, hY⟩ : ∃ Y, yearsOf s = Y := ⟨_, rfl⟩
    have hyv : yv = (Y : Int) := by rw [hxs.out.2, hj0, ← hY]; rfl
    subst hyv
    rw [hY] at hY9
    have E3 : IntKind.i64.wrap (2 * (Y : Int)) = 2 * (Y : Int) := IntWalk.i64_in _ (by omega)
    have E4 : IntKind.i64.wrap (2 + 2 * (Y : Int)) = 2 + 2 * (Y : Int) := IntWalk.i64_in _ (by omega)
    have HYO := Lib.hid hY
    have HJ0 := Lib.hid hj0
    clear hq0 hY hj0
    go_upto_region 10 with (go_at_call 68; refine (HSD.out k wRiver _).mono ?_; rintro e w6 ⟨v8, bo, ns, rfl, hx6, hv8, htd, hns⟩)
    have hz6 := (hx6.block (Array.getElem?_eq_some_iff.1 HRZ.out).1).trans HRZ.out
    have hb6 := (hx6.block (Array.getElem?_eq_some_iff.1 hbx.out).1).trans hbx.out
    obtain ⟨z0, f0⟩ := block_cell hz6 (i := 0) rfl
    obtain ⟨q0, q1⟩ := block_cell hz6 (i := 1) rfl
    obtain ⟨p0, p1⟩ := block_cell hb6 (i := 0) rfl
    have HX6 := Lib.hid hx6
    have HB6 := Lib.hid hb6
    have ht2 := htd (2 * Y + 2)
    clear hz6 hb6 hx6 z1 htd
    cases htk : toldOk wRiver (2 * Y + 2) (lineAt s k) with
    | false =>
     rw [htk] at ht2
     have HNO := Lib.hid (rread_no1 (s := s) (i := j0) (by rw [HK.out]; have := HJ0.out; omega) (by rw [HYO.out, ← HJ0.out]; exact htk))
     obtain ⟨na, nc, rfl, _⟩ := RowAt.open (RowAt.of_owns hv8)
     clear htk hv8 hns
     cases bo with
     | false =>
      clear ht2
      go_wp2
      refine bodyPost_ret (v := .tuple #[.agg #[.int .i64 0, .slice none 0 0], .bool false]) (by simp [results, Tryz.results29, go_sem, *]) rfl (HFAIL.out _ ?_ HNO.out)
      exact ((HXO.out.trans HX6.out).setCell (p := ⟨w.heap.size, 0, none⟩) (Nat.le_refl _) _).setCell (p := ⟨w.heap.size, 1, none⟩) (Nat.le_refl _) _
     | true =>
      have hl : ns.length ≠ 2 * Y + 2 := by simpa using ht2.symm
      clear ht2
      by_cases h2 : ns.length < 2
      ·have d1 : decide ((ns.length : Int) < 2) = true := by simp; omega
       clear hl h2
       go_wp2
       refine bodyPost_ret (v := .tuple #[.agg #[.int .i64 0, .slice none 0 0], .bool false]) (by simp [results, Tryz.results29, go_sem, *]) rfl (HFAIL.out _ ?_ HNO.out)
       exact ((HXO.out.trans HX6.out).setCell (p := ⟨w.heap.size, 0, none⟩) (Nat.le_refl _) _).setCell (p := ⟨w.heap.size, 1, none⟩) (Nat.le_refl _) _
      ·have d1 : decide ((ns.length : Int) < 2) = false := by simp; omega
       have d2 : ((ns.length : Int) != 2 + 2 * (Y : Int)) = true := by rw [bne_iff_ne]; omega
       clear hl h2
       go_wp2
       refine bodyPost_ret (v := .tuple #[.agg #[.int .i64 0, .slice none 0 0], .bool false]) (by simp [results, Tryz.results29, go_sem, *]) rfl (HFAIL.out _ ?_ HNO.out)
       exact ((HXO.out.trans HX6.out).setCell (p := ⟨w.heap.size, 0, none⟩) (Nat.le_refl _) _).setCell (p := ⟨w.heap.size, 1, none⟩) (Nat.le_refl _) _
    | true =>
     rw [htk] at ht2
     obtain ⟨hbo, hln⟩ : bo = true ∧ ns.length = 2 * Y + 2 := by simpa using ht2.symm
     subst hbo
     have HNS := Lib.hid (hns rfl)
     have HTK := Lib.hid htk
     obtain ⟨nb, nc, rfl⟩ := owns_succ (show w6.ownsRow wo.heap.size 3 1 v8 (2 * Y + 1 + 1) _ from (show ns.length = 2 * Y + 1 + 1 from hln) ▸ hv8)
     have HNC := Lib.hid (fun (i : Nat) (hi : i < 2 * Y + 2) (W : World) (h : Ext w6 W) => h.cell (show w6.cell? ⟨nb, i, none⟩ = some (.int .i64 (ns.getD i 0)) from by
      have h9 : w6.ownsRow wo.heap.size 3 1 (.slice (some ⟨nb, 0, none⟩) (2 * Y + 1 + 1) nc) (2 * Y + 1 + 1) (ns.map (.int .i64)) := (show ns.length = 2 * Y + 1 + 1 from hln) ▸ hv8
      have h := h9.cellAt i (by omega)
      rw [h, List.getElem?_map, List.getD_eq_getElem?_getD, List.getElem?_eq_getElem (by rw [hln]; exact hi)]; rfl))
     have d0 : (0 : Int) < 2 * (Y : Int) + 1 + 1 := by omega
     have d1 : (1 : Int) < 2 * (Y : Int) + 1 + 1 := by omega
     have d2 : decide (2 * (Y : Int) + 1 + 1 < 2) = false := by simp; omega
     have d3 : (2 * (Y : Int) + 1 + 1 != 2 + 2 * (Y : Int)) = false := by rw [bne_eq_false_iff_eq]; omega
     have d2' : decide (2 * (Y : Int) + 2 < 2) = false := by simp; omega
     have d3' : (2 * (Y : Int) + 2 != 2 + 2 * (Y : Int)) = false := by rw [bne_eq_false_iff_eq]; omega
     clear htk ht2 hv8 hns hln
     go_upto_region 14 with fail
     have hza := (Ext.refl w6).alloc (.cells #[.slice none 0 0, .int .i64 0, .int .i64 0] 73)
     have c0 := HNC.out 0 (by omega) _ (Ext.refl _)
     have c1 := HNC.out 1 (by omega) _ (Ext.refl _)
     have c0' := hza.cell c0
     have c1' := hza.cell c1
     obtain ⟨n0, hn0⟩ : ∃ x, ns.getD 0 0 = x := ⟨_, rfl⟩
     obtain ⟨n1, hn1⟩ : ∃ x, ns.getD 1 0 = x := ⟨_, rfl⟩
     rw [hn0] at c0 c0'
     rw [hn1] at c1 c1'
     have HN01 := Lib.hid (And.intro hn0 hn1)
     have HP0 := Lib.hid p0
     clear hn0 hn1
     go_region
     obtain ⟨W9, hW9⟩ : ∃ W9, W9 = (w6.alloc (.cells #[.slice none 0 0, .int .i64 n0, .int .i64 n1] 73)).drew := ⟨_, rfl⟩
     have hx69 : Ext w6 W9 := by rw [hW9]; exact ((Ext.refl w6).alloc _).drew
     have HB9 : Hid (W9.heap[w6.heap.size]? = some (.cells #[.slice none 0 0, .int .i64 n0, .int .i64 n1] 73 (0, 0))) := by rw [hW9]; exact World.alloc_heap_new w6 _
     rw [← hW9]
     clear hW9 c0 c1 c0' c1' hza p0 p1 z0 f0 q0 q1 d2 d3 d2' d3'
     go_wp2
     go_loopw [11] (fun i wq => ∃ (j : Nat) (gv : Value), j ≤ Y ∧ i = .int .i64 j ∧ Hid (wq.heap[w6.heap.size]? = some (.cells #[gv, .int .i64 n0, .int .i64 n1] 73 (0, 0))) ∧ Hid (wq.ownsRow (w6.heap.size + 1) 52 2 gv j ((tellG ns j).flatMap pairC)) ∧ Ext w6 wq) (fun i _ => Y - (intOf i).toNat)
     case atStart => exact ⟨0, .slice none 0 0, Nat.zero_le _, rfl, HB9, (by exact World.ownsRow_nil _ _ _ _), hx69⟩
     case round =>
      clear HB9 hx69
      obtain ⟨j, gv, hj, rfl, HBQ, HO, hxq⟩ := hrel
      have p0 := hxq.cell HP0.out
      by_cases hjl : j < Y
      ·have y1 : decide ((j : Int) < (Y : Int)) = true := by simpa using hjl
       have F1 : IntKind.i64.wrap (2 * (j : Int)) = 2 * (j : Int) := IntWalk.i64_in _ (by omega)
       have F2 : IntKind.i64.wrap (2 + 2 * (j : Int)) = 2 + 2 * (j : Int) := IntWalk.i64_in _ (by omega)
       have F3 : IntKind.i64.wrap (3 + 2 * (j : Int)) = 3 + 2 * (j : Int) := IntWalk.i64_in _ (by omega)
       have f1 : (0 : Int) ≤ 2 + 2 * (j : Int) := by omega
       have f2 : 2 + 2 * (j : Int) < 2 * (Y : Int) + 1 + 1 := by omega
       have f3 : (0 : Int) ≤ 3 + 2 * (j : Int) := by omega
       have f4 : 3 + 2 * (j : Int) < 2 * (Y : Int) + 1 + 1 := by omega
       have f5 : (2 + 2 * (j : Int)).toNat = 2 + 2 * j := by omega
       have f6 : (3 + 2 * (j : Int)).toNat = 3 + 2 * j := by omega
       have htg := tellG_succ ns j
       rw [Nat.add_comm (2 * j) 2, Nat.add_comm (2 * j) 3] at htg
       have HTG := Lib.hid htg
       have HNJ := Lib.hid (And.intro (HNC.out (2 + 2 * j) (by omega)) (HNC.out (3 + 2 * j) (by omega)))
       generalize ns.getD (2 + 2 * j) 0 = m0 at HNJ HTG
       generalize ns.getD (3 + 2 * j) 0 = m1 at HNJ HTG
       obtain ⟨va, vc, rfl, _⟩ := RowAt.open (RowAt.of_owns HO.out)
       have g0 := (block_cell HBQ.out (i := 0) rfl).1
       have g1 := (block_cell HBQ.out (i := 0) rfl).2
       have g2 := HNJ.out.1 _ hxq
       have g3 := HNJ.out.2 _ hxq
       have HSZ := Lib.hid (show j + 1 ≤ maxLen ∧ (j + 1) * 16 ≤ 140737488355328 by unfold maxLen; omega)
       have HXQ := Lib.hid hxq
       clear hxq htg
       go_wp2
       go_upto_region 18 with fail
       refine wp_region_noPanic ?_
       refine wp_region_any (by kernel_rfl) (wpAny_of_till (z := 18) (S := (fun w' => w'.cell? ⟨w6.heap.size, 0, none⟩ = some (.slice va j vc) ∧ w'.frozen? ⟨w6.heap.size, 0, none⟩ = false ∧ w'.cell? ⟨nb, 2 + 2 * j, none⟩ = some (.int .i64 m0) ∧ w'.cell? ⟨nb, 3 + 2 * j, none⟩ = some (.int .i64 m1))) _ _ _ _ ?_)
       change wpTill _ _ _ _ _ _ _ _ _ wr.drew
       have hS0 := (show (World.drew wr).cell? ⟨w6.heap.size, 0, none⟩ = some (.slice va j vc) ∧ (World.drew wr).frozen? ⟨w6.heap.size, 0, none⟩ = false ∧ (World.drew wr).cell? ⟨nb, 2 + 2 * j, none⟩ = some (.int .i64 m0) ∧ (World.drew wr).cell? ⟨nb, 3 + 2 * j, none⟩ = some (.int .i64 m1) from ⟨g0, g1, g2, g3⟩)
       refine till_at (i := 0) (d := some 81) (v := ?_) (by kernel_rfl) (by kernel_rfl) (by kernel_rfl) (by kernel_rfl) (by kernel_rfl) (fun _ _ _ h => h) (fun o ho => ?_) hS0 ?_
       rotate_left
       ·simp only [zA, zB, zD] at ho
        subst ho
        refine Or.inl ⟨by rfl, fun w' hSw => ?_⟩
        obtain ⟨hSw0, hSw1, hSw2, hSw3⟩ := hSw
        go_simp
        try with_reducible rfl
       try simp only [Act.put, yA, yB, yC]
       refine till_at (i := 1) (d := some 82) (v := ?_) (by kernel_rfl) (by kernel_rfl) (by kernel_rfl) (by kernel_rfl) (by kernel_rfl) (fun _ _ _ h => h) (fun o ho => ?_) hS0 ?_
       rotate_left
       ·simp only [zA, zB, zC, zD] at ho
        subst ho
        refine Or.inl ⟨by rfl, fun w' hSw => ?_⟩
        obtain ⟨hSw0, hSw1, hSw2, hSw3⟩ := hSw
        go_simp
        try with_reducible rfl
       try simp only [Act.put, yA, yB, yC]
       refine till_at (i := 2) (d := some 83) (v := ?_) (by kernel_rfl) (by kernel_rfl) (by kernel_rfl) (by kernel_rfl) (by kernel_rfl) (fun _ _ _ h => h) (fun o ho => ?_) hS0 ?_
       rotate_left
       ·simp only [zA, zB, zC, zD] at ho
        subst ho
        refine Or.inl ⟨by rfl, fun w' hSw => ?_⟩
        obtain ⟨hSw0, hSw1, hSw2, hSw3⟩ := hSw
        go_simp
        try with_reducible rfl
       try simp only [Act.put, yA, yB, yC]
       refine till_at (i := 3) (d := some 84) (v := ?_) (by kernel_rfl) (by kernel_rfl) (by kernel_rfl) (by kernel_rfl) (by kernel_rfl) (fun _ _ _ h => h) (fun o ho => ?_) hS0 ?_
       rotate_left
       ·simp only [zA, zB, zC, zD] at ho
        subst ho
        refine Or.inl ⟨by rfl, fun w' hSw => ?_⟩
        obtain ⟨hSw0, hSw1, hSw2, hSw3⟩ := hSw
        go_simp
        try with_reducible rfl
       try simp only [Act.put, yA, yB, yC]
       refine till_at (i := 4) (d := some 85) (v := ?_) (by kernel_rfl) (by kernel_rfl) (by kernel_rfl) (by kernel_rfl) (by kernel_rfl) (fun _ _ _ h => h) (fun o ho => ?_) hS0 ?_
       rotate_left
       ·simp only [zA, zB, zC, zD] at ho
        subst ho
        refine Or.inl ⟨by rfl, fun w' hSw => ?_⟩
        obtain ⟨hSw0, hSw1, hSw2, hSw3⟩ := hSw
        go_simp
        try with_reducible rfl
       try simp only [Act.put, yA, yB, yC]
       refine till_at (i := 5) (d := some 86) (v := ?_) (by kernel_rfl) (by kernel_rfl) (by kernel_rfl) (by kernel_rfl) (by kernel_rfl) (fun _ _ _ h => h) (fun o ho => ?_) hS0 ?_
       rotate_left
       ·simp only [zA, zB, zC, zD] at ho
        subst ho
        refine Or.inl ⟨by rfl, fun w' hSw => ?_⟩
        obtain ⟨hSw0, hSw1, hSw2, hSw3⟩ := hSw
        go_simp
        try with_reducible rfl
       try simp only [Act.put, yA, yB, yC]
       refine till_at (i := 6) (d := some 87) (v := ?_) (by kernel_rfl) (by kernel_rfl) (by kernel_rfl) (by kernel_rfl) (by kernel_rfl) (fun _ _ _ h => h) (fun o ho => ?_) hS0 ?_
       rotate_left
       ·simp only [zA, zB, zC, zD] at ho
        subst ho
        refine Or.inl ⟨by rfl, fun w' hSw => ?_⟩
        obtain ⟨hSw0, hSw1, hSw2, hSw3⟩ := hSw
        go_simp
        try with_reducible rfl
       try simp only [Act.put, yA, yB, yC]
       refine till_at (i := 7) (d := some 88) (v := ?_) (by kernel_rfl) (by kernel_rfl) (by kernel_rfl) (by kernel_rfl) (by kernel_rfl) (fun _ _ _ h => h) (fun o ho => ?_) hS0 ?_
       rotate_left
       ·simp only [zA, zB, zC, zD] at ho
        subst ho
        refine Or.inl ⟨by rfl, fun w' hSw => ?_⟩
        obtain ⟨hSw0, hSw1, hSw2, hSw3⟩ := hSw
        go_simp
        try with_reducible rfl
       try simp only [Act.put, yA, yB, yC]
       refine till_at (i := 8) (d := some 89) (v := ?_) (by kernel_rfl) (by kernel_rfl) (by kernel_rfl) (by kernel_rfl) (by kernel_rfl) (fun _ _ _ h => h) (fun o ho => ?_) hS0 ?_
       rotate_left
       ·simp only [zA, zB, zC, zD] at ho
        subst ho
        refine Or.inl ⟨by rfl, fun w' hSw => ?_⟩
        obtain ⟨hSw0, hSw1, hSw2, hSw3⟩ := hSw
        go_simp
        try with_reducible rfl
       try simp only [Act.put, yA, yB, yC]
       refine till_at (i := 9) (d := some 90) (v := ?_) (by kernel_rfl) (by kernel_rfl) (by kernel_rfl) (by kernel_rfl) (by kernel_rfl) (fun _ _ _ h => h) (fun o ho => ?_) hS0 ?_
       rotate_left
       ·simp only [zA, zB, zC, zD] at ho
        subst ho
        refine Or.inl ⟨by rfl, fun w' hSw => ?_⟩
        obtain ⟨hSw0, hSw1, hSw2, hSw3⟩ := hSw
        go_simp
        try with_reducible rfl
       try simp only [Act.put, yA, yB, yC]
       refine till_at (i := 10) (d := some 91) (v := ?_) (by kernel_rfl) (by kernel_rfl) (by kernel_rfl) (by kernel_rfl) (by kernel_rfl) (fun _ _ _ h => h) (fun o ho => ?_) hS0 ?_
       rotate_left
       ·simp only [zA, zB, zC, zD] at ho
        subst ho
        refine Or.inl ⟨by rfl, fun w' hSw => ?_⟩
        obtain ⟨hSw0, hSw1, hSw2, hSw3⟩ := hSw
        go_simp
        try with_reducible rfl
       try simp only [Act.put, yA, yB, yC]
       refine till_at (i := 11) (d := some 92) (v := ?_) (by kernel_rfl) (by kernel_rfl) (by kernel_rfl) (by kernel_rfl) (by kernel_rfl) (fun _ _ _ h => h) (fun o ho => ?_) hS0 ?_
       rotate_left
       ·simp only [zA, zB, zC, zD] at ho
        subst ho
        refine Or.inl ⟨by rfl, fun w' hSw => ?_⟩
        obtain ⟨hSw0, hSw1, hSw2, hSw3⟩ := hSw
        go_simp
        try with_reducible rfl
       try simp only [Act.put, yA, yB, yC]
       refine till_at (i := 12) (d := some 93) (v := ?_) (by kernel_rfl) (by kernel_rfl) (by kernel_rfl) (by kernel_rfl) (by kernel_rfl) (fun _ _ _ h => h) (fun o ho => ?_) hS0 ?_
       rotate_left
       ·simp only [zA, zB, zC, zD] at ho
        subst ho
        refine Or.inl ⟨by rfl, fun w' hSw => ?_⟩
        obtain ⟨hSw0, hSw1, hSw2, hSw3⟩ := hSw
        go_simp
        try with_reducible rfl
       try simp only [Act.put, yA, yB, yC]
       refine till_at (i := 13) (d := some 94) (v := ?_) (by kernel_rfl) (by kernel_rfl) (by kernel_rfl) (by kernel_rfl) (by kernel_rfl) (fun _ _ _ h => h) (fun o ho => ?_) hS0 ?_
       rotate_left
       ·simp only [zA, zB, zC, zD] at ho
        subst ho
        refine Or.inl ⟨by rfl, fun w' hSw => ?_⟩
        obtain ⟨hSw0, hSw1, hSw2, hSw3⟩ := hSw
        go_simp
        try with_reducible rfl
       try simp only [Act.put, yA, yB, yC]
       refine till_at (i := 14) (d := some 95) (v := ?_) (by kernel_rfl) (by kernel_rfl) (by kernel_rfl) (by kernel_rfl) (by kernel_rfl) (fun _ _ _ h => h) (fun o ho => ?_) hS0 ?_
       rotate_left
       ·simp only [zA, zB, zC, zD] at ho
        subst ho
        refine Or.inl ⟨by rfl, fun w' hSw => ?_⟩
        obtain ⟨hSw0, hSw1, hSw2, hSw3⟩ := hSw
        go_simp
        try with_reducible rfl
       try simp only [Act.put, yA, yB, yC]
       refine till_step (i := 15) (by kernel_rfl) (by kernel_rfl) (fun o ho K' hK => ?_)
       simp only [zA, zB, zC, zD] at ho
       subst ho
       go_simp
       have hS15 := (show (wr.drew.alloc (.cells #[.int .i64 m0, .int .i64 m1] 52)).cell? ⟨w6.heap.size, 0, none⟩ = some (.slice va j vc) ∧ (wr.drew.alloc (.cells #[.int .i64 m0, .int .i64 m1] 52)).frozen? ⟨w6.heap.size, 0, none⟩ = false ∧ (wr.drew.alloc (.cells #[.int .i64 m0, .int .i64 m1] 52)).cell? ⟨nb, 2 + 2 * j, none⟩ = some (.int .i64 m0) ∧ (wr.drew.alloc (.cells #[.int .i64 m0, .int .i64 m1] 52)).cell? ⟨nb, 3 + 2 * j, none⟩ = some (.int .i64 m1) from ⟨((Ext.refl wr).drew.alloc _).cell g0, (((Ext.refl wr).drew.alloc _).frozen (lt_of_cell g0)).trans g1, ((Ext.refl wr).drew.alloc _).cell g2, ((Ext.refl wr).drew.alloc _).cell g3⟩)
       refine hK.out _ _ (fun _ => hS15) (fun _ => ?_)
       clear hK K'
       try simp only [Act.put, yA, yB, yC]
       refine till_step (i := 16) (by kernel_rfl) (by kernel_rfl) (fun o ho K' hK => ?_)
       simp only [zA, zB, zC, zD] at ho
       subst ho
       refine step_push_at E_spans (by rfl) _ _ (by rfl) (w6.heap.size + 1) (by rfl) (owns_ext HO.out (Ext.refl wr).drew) (by rfl) (by rfl) (by rfl) (by simp [Value.oneCell']) ?_ HSZ.out.1 HSZ.out.2 (by have := (Array.getElem?_eq_some_iff.1 HBQ.out).1; exact this)
       intro g9 cap9 w9 hown9 hg9 hloc9
       have hx9 : Ext w6 w9 := (HXQ.out.drew.alloc _).grown hg9 (fun b hb => by have := owns_block HO.out b hb; omega)
       have HB9 := Lib.hid (kept_push hg9 (show wr.drew.heap[w6.heap.size]? = some (.cells #[.slice va j vc, .int .i64 n0, .int .i64 n1] 73 (0, 0)) from HBQ.out) (owns_block HO.out) (Nat.lt_succ_self _))
       have HO9 := Lib.hid hown9
       have HX9 := Lib.hid hx9
       clear hown9 hg9 hloc9 hx9
       have hS16 := (show w9.cell? ⟨w6.heap.size, 0, none⟩ = some (.slice va j vc) ∧ w9.frozen? ⟨w6.heap.size, 0, none⟩ = false ∧ w9.cell? ⟨nb, 2 + 2 * j, none⟩ = some (.int .i64 m0) ∧ w9.cell? ⟨nb, 3 + 2 * j, none⟩ = some (.int .i64 m1) from ⟨(block_cell HB9.out (i := 0) rfl).1, (block_cell HB9.out (i := 0) rfl).2, HNJ.out.1 _ HX9.out, HNJ.out.2 _ HX9.out⟩)
       refine hK.out _ _ (fun _ => hS16) (fun _ => ?_)
       clear hK K'
       try simp only [Act.put, yA, yB, yC]
       refine till_at (i := 17) (d := some 98) (v := ?_) (by kernel_rfl) (by kernel_rfl) (by kernel_rfl) (by kernel_rfl) (by kernel_rfl) (fun _ _ _ h => h) (fun o ho => ?_) hS16 ?_
       rotate_left
       ·simp only [zA, zB, zC, zD] at ho
        subst ho
        refine Or.inl ⟨by rfl, fun w' hSw => ?_⟩
        obtain ⟨hSw0, hSw1, hSw2, hSw3⟩ := hSw
        go_simp
        try with_reducible rfl
       try simp only [Act.put, yA, yB, yC]
       refine till_step (i := 18) (by kernel_rfl) (by kernel_rfl) (fun o ho K' hK => ?_)
       simp only [zA, zB, zC, zD] at ho
       subst ho
       go_simp
       refine hK.out _ _ (fun h => absurd rfl h) (fun _ => ?_)
       clear hK K'
       try simp only [Act.put, yA, yB, yC]
       refine till_done (by kernel_rfl) ?_ _
       refine NoPanic.normal ?_
       try simp only [Act.put, yA, yB, yC]
       go_wp2
       refine ⟨⟨j + 1, .slice (some ⟨g9, 0, none⟩) (j + 1) cap9, by omega, by go_num, setCell_block (i := 0) HB9.out, ?_, HX9.out.setCell (p := ⟨w6.heap.size, 0, none⟩) (Nat.le_refl _) _⟩, by simp [intOf]; omega⟩
       rw [Hid, HTG.out, List.flatMap_append]
       exact owns_touch HO9.out (Touch.setCell (M := (· = w6.heap.size)) (a := ⟨w6.heap.size, 0, none⟩) _ rfl) (fun g hg e => by have := owns_block HO9.out g hg; omega)
      ·have y1 : decide ((j : Int) < (Y : Int)) = false := by simpa using hjl
       have hje : j = Y := by omega
       subst hje
       obtain ⟨va, vc, rfl, _⟩ := RowAt.open (RowAt.of_owns HO.out)
       obtain ⟨ra, rc, rfl, _⟩ := RowAt.open (RowAt.of_owns hown.out)
       have HPS : Hid (PairsAt wr (.slice va j vc) (tellR ns j).grow) := by
        have h := RowAt.of_owns HO.out
        show RowAt wr _ (tellG ns j).length _
        rw [tellG_len]; exact h
       have hxw : Ext wo wr := HX6.out.trans hxq
       have hbr : wr.heap[w.heap.size + 1]? = some (.cells #[.int .i64 (j : Int), .slice ra xs.length rc] 24 (0, 0)) := (hxw.block (Array.getElem?_eq_some_iff.1 hbx.out).1).trans hbx.out
       have hpl : w1.heap.size ≤ wr.heap.size := Nat.le_trans htr.out.size hxw.size
       have p1 := (block_cell hbr (i := 1) rfl).1
       have p1f := (block_cell hbr (i := 1) rfl).2
       have q0 := (block_cell HBQ.out (i := 0) rfl).1
       have q1 := (block_cell HBQ.out (i := 1) rfl).1
       have q2 := (block_cell HBQ.out (i := 2) rfl).1
       have hxl : xs.length ≤ 300 := by have h := congrArg List.length hxs.out.1; rw [List.length_map, HJ0.out] at h; have h2 : (upTo s (j0 + 1)).rivers.length = j0 := riversOf_len s j0; have := HJ0.out; omega
       have HBR := Lib.hid hbr
       have HXR := Lib.hid hxw
       have HSZ := Lib.hid (show xs.length + 1 ≤ maxLen ∧ (xs.length + 1) * 40 ≤ 140737488355328 by unfold maxLen; omega)
       clear hxq hxw hbr hxl
       go_wp2_with (at_builtin; refine wpList_push_at E_rivers rfl _ _ rfl w1.heap.size rfl (owns_ext hown.out HXR.out) rfl (by simp) rfl (by simp [Value.oneCell']) ?_ HSZ.out.1 HSZ.out.2 hpl; intro g cap w7 hown7 hext7 hg7 hloc7; have HB7 := Lib.hid (kept_push hg7 HBR.out (owns_block hown.out) (by omega)); have p1' := (block_cell HB7.out (i := 1) rfl).1; have p1g := (block_cell HB7.out (i := 1) rfl).2; have HO7 := Lib.hid hown7; have HG7 := Lib.hid (And.intro hg7 hloc7); clear hown7 hext7 hg7 hloc7)
       have hT7 : Touch (· = w.heap.size + 1) w1 w7 := Touch.of_new (N := fun i => i = w.heap.size + 1 ∨ w1.heap.size ≤ i) ((((htr.out.trans (Touch.of_ext HXR.out)).mono (fun i hi => .inl hi)).trans (Touch.of_ext ((Ext.refl wr).alloc _))).trans (Touch.grown HG7.out.1 (fun i hi => .inr (owns_block hown.out i hi)))) (fun i hi hl => hi.elim id (fun h => by omega))
       refine ⟨⟨k + 1, (j : Int), .slice (some ⟨g, 0, none⟩) (xs.length + 1) cap, xs ++ [(.slice va j vc, tellR ns j)], by omega, by go_num, ⟨?_, ?_⟩, setCell_block (i := 1) HB7.out, ?_, ?_, ?_, hT7.trans (Touch.setCell _ rfl)⟩, by simp [intOf]; omega⟩
       ·have h := hxs.out.1
        rw [HJ0.out] at h ⊢
        show _ = riversOf s (j0 + 1)
        rw [List.map_append, h, riversOf_succ, HYO.out, HNS.out, HJ0.out]; rfl
       ·show (j : Int) = ((yearsOf s : Nat) : Int)
        rw [HYO.out]
       ·have h := HO7.out
        have e : [(Value.slice va j vc, tellR ns j)].flatMap riverC = [.slice va j vc, .int .i64 n0, .int .i64 n1] := by rw [← HN01.out.1, ← HN01.out.2]; rfl
        rw [Hid, List.flatMap_append, e, List.length_append]
        exact owns_touch h (Touch.setCell (M := (· = w.heap.size + 1)) (a := ⟨w.heap.size + 1, 1, none⟩) _ rfl) (fun g hg e => by have := owns_block h g hg; omega)
       ·exact rivers_push hown.out HXR.out HX6.out.size (Array.getElem?_eq_some_iff.1 hbx.out).1 HO.out HPS.out hpa.out HG7.out.1 HG7.out.2
       ·have h := hall.out
        rw [HJ0.out] at h ⊢
        exact upOk_succ h (by rw [HYO.out, ← HJ0.out]; exact HTK.out)
  ·have x1 : decide ((k : Int) + 2 < (K : Int) + 1) = false := by simp; omega
   have E1 : IntKind.i64.wrap ((k : Int) + 2) = (k : Int) + 2 := IntWalk.i64_in _ (by omega)
   have hkK : k = (splitL 10 s).length - 2 := by rw [HK.out]; omega
   have hup : upTo s k = readB s := by rw [hkK]; exact upTo_end s
   have hok : upOk s ((splitL 10 s).length - 2) := by rw [← hkK]; exact hall.out
   have HTE := Lib.hid (rread_textB hok hs)
   have HYES := Lib.hid (rread_yes hok hs)
   obtain ⟨ra, rc, rfl, _⟩ := RowAt.open (RowAt.of_owns hown.out)
   rw [hup] at hxs
   have HRV : Hid (RiversOff (fun i => i ≤ w.heap.size + 1) wo (.slice ra xs.length rc) (readB s).rivers) := by
    refine ⟨xs, hxs.out.1, RowAt.of_owns hown.out, fun a n c hv hM => ?_, fun x hx => ⟨(hpa.out x hx).1, (hpa.out x hx).2.less (fun i hi => .inl hi)⟩⟩
    have h9 := owns_block hown.out a.block (by
      obtain ⟨_, ⟨e, _⟩ | ⟨g', cap', cur, e, _⟩⟩ := hown.out
      ·rw [hv] at e; cases e
      ·rw [hv] at e; cases e; rw [hv]; rfl)
    omega
   have hYV := hxs.out.2
   have hba : BookAt wo (.agg #[.int .i64 yv, .slice ra xs.length rc]) (readB s) := by rw [hYV]; exact ⟨_, rfl, HRV.out.at⟩
   have HTC := Lib.hid (fun W (h : Ext wo W) => HPR.out _ (readB s) W (hba.ext h) HTE.out)
   have HEND : Hid (∀ (bo : Bool) (W : World), Ext w W → RiversAt W (.slice ra xs.length rc) (readB s).rivers → ((bo = true → TextOf s (readB s)) ∧ (bo = false → ¬ ∃ q, TextOf s q)) → RReadPost s w (.returned (.tuple #[.agg #[.int .i64 yv, .slice ra xs.length rc], .bool bo])) W) := fun bo W hW hr hbo => ⟨_, bo, readB s, rfl, hW, by rw [hYV]; exact ⟨_, rfl, hr⟩, hbo.1, hbo.2⟩
   have p0 := (block_cell hbx.out (i := 0) rfl).1
   have p1 := (block_cell hbx.out (i := 1) rfl).1
   have HRZ := Lib.hid hrz
   clear hrz hba hkK hup hok hYV
   by_cases hq : textT (readB s) = s
   ·have HQ := Lib.hid (HYES.out hq)
    rw [hq] at HTC
    clear hq
    go_upto_region 20 with fail
    refine wp_region_held_drew (S := (fun W => W.cell? ⟨w.heap.size + 1, 0, none⟩ = some (.int .i64 yv) ∧ W.cell? ⟨w.heap.size + 1, 1, none⟩ = some (.slice ra xs.length rc))) (by kernel_rfl) ?_ (fun hHeld => ?_)
    ·exact ⟨p0, p1⟩
    refine hTk (i := 0) (d := some 105) (v := ?_) (fun o ho => ?_) hHeld ?_
    rotate_left
    ·simp only [zA, zB, zD] at ho
     subst ho
     refine ⟨by rfl, fun w hSw => ?_⟩
     (try dsimp only at hSw)
     go_simp
     try with_reducible rfl
    try simp only [Act.put, yA, yB, yC]
    refine hTk (i := 1) (d := some 106) (v := ?_) (fun o ho => ?_) hHeld ?_
    rotate_left
    ·simp only [zA, zB, zC, zD] at ho
     subst ho
     refine ⟨by rfl, fun w hSw => ?_⟩
     (try dsimp only at hSw)
     go_simp
     try with_reducible rfl
    try simp only [Act.put, yA, yB, yC]
    refine hTk (i := 3) (d := some 108) (v := ?_) (fun o ho => ?_) hHeld ?_
    rotate_left
    ·simp only [zA, zB, zC, zD] at ho
     subst ho
     refine ⟨by rfl, fun w hSw => ?_⟩
     (try dsimp only at hSw)
     go_simp
     try with_reducible rfl
    try simp only [Act.put, yA, yB, yC]
    refine wpAnyH_ready (rs := [2]) (by kernel_rfl) (by simp) ?_
    refine held_step (i := 2) (by kernel_rfl) (fun o ho K' hK => ?_) ?_
    ·simp only [zA, zB, zC, zD] at ho
     subst ho
     go_simp
     go_at_call 27
     refine (HTC.out _ (Ext.refl wo).drew).mono ?_
     rintro e w8 ⟨rfl, hx8⟩
     have hb8 := ((((Ext.refl wo).drew).trans hx8).block (Array.getElem?_eq_some_iff.1 hbx.out).1).trans hbx.out
     have hr8 := ((((Ext.refl wo).drew).trans hx8).block (Array.getElem?_eq_some_iff.1 HRZ.out).1).trans HRZ.out
     obtain ⟨z0, f0⟩ := block_cell hr8 (i := 0) rfl
     obtain ⟨z1, f1⟩ := block_cell hr8 (i := 1) rfl
     have hq0 := (block_cell hb8 (i := 0) rfl).1
     have hq1 := (block_cell hb8 (i := 1) rfl).1
     have HX8 := Lib.hid (((Ext.refl wo).drew).trans hx8)
     clear hb8 hr8 hx8
     refine hK.out _ _ ?_ (fun hHeld => ?_)
     ·exact ⟨hq0, hq1⟩
     clear hK K'
     try simp only [yA, yB, yC]
     refine hTk (i := 4) (d := some 109) (v := ?_) (fun o ho => ?_) hHeld ?_
     rotate_left
     ·simp only [zA, zB, zC, zD] at ho
      subst ho
      refine ⟨by rfl, fun w hSw => ?_⟩
      (try dsimp only at hSw)
      go_simp
      try with_reducible rfl
     try simp only [Act.put, yA, yB, yC]
     refine wpAnyH_ready (rs := [5]) (by kernel_rfl) (by simp) ?_
     refine held_step (i := 5) (by kernel_rfl) (fun o ho K' hK => ?_) ?_
     ·simp only [zA, zB, zC, zD] at ho
      subst ho
      go_simp
      refine hK.out _ _ ?_ (fun hHeld => ?_)
      ·exact ⟨((Touch.setCell (M := (· = w.heap.size)) (A := w8) (a := ⟨w.heap.size, 0, none⟩) _ rfl).trans (Touch.setCell (a := ⟨w.heap.size, 1, none⟩) _ rfl)).cell hq0 (by simp), ((Touch.setCell (M := (· = w.heap.size)) (A := w8) (a := ⟨w.heap.size, 0, none⟩) _ rfl).trans (Touch.setCell (a := ⟨w.heap.size, 1, none⟩) _ rfl)).cell hq1 (by simp)⟩
      clear hK K'
      try simp only [yA, yB, yC]
      refine wpAnyH_ready (rs := [6]) (by kernel_rfl) (by simp) ?_
      refine held_step (i := 6) (by kernel_rfl) (fun o ho K' hK => ?_) ?_
      ·simp only [zA, zB, zC, zD] at ho
       subst ho
       go_simp
       refine hK.out _ _ ?_ (fun hHeld => ?_)
       ·exact ⟨((Touch.setCell (M := (· = w.heap.size)) (A := w8) (a := ⟨w.heap.size, 0, none⟩) _ rfl).trans (Touch.setCell (a := ⟨w.heap.size, 1, none⟩) _ rfl)).cell hq0 (by simp), ((Touch.setCell (M := (· = w.heap.size)) (A := w8) (a := ⟨w.heap.size, 0, none⟩) _ rfl).trans (Touch.setCell (a := ⟨w.heap.size, 1, none⟩) _ rfl)).cell hq1 (by simp)⟩
       clear hK K'
       try simp only [yA, yB, yC]
       refine wpAnyH_done (by kernel_rfl) ?_ _
       try simp only [yA, yB, yC]
       clear hHeld
       go_wp2
       refine bodyPost_ret (v := .tuple #[.agg #[.int .i64 yv, .slice ra xs.length rc], .bool true]) (by simp [results, Tryz.results29, go_sem, *]) rfl (HEND.out true _ ?_ ?_ ?_)
       ·exact ((HXO.out.trans HX8.out).setCell (p := ⟨w.heap.size, 0, none⟩) (Nat.le_refl _) _).setCell (p := ⟨w.heap.size, 1, none⟩) (Nat.le_refl _) _
       ·exact ((HRV.out.ext HX8.out).touch (((Touch.setCell (M := (· = w.heap.size)) (A := w8) (a := ⟨w.heap.size, 0, none⟩) _ rfl).trans (Touch.setCell (a := ⟨w.heap.size, 1, none⟩) _ rfl)).mono (fun i hi => by omega))).at
       ·exact ⟨fun _ => HQ.out, (by intro h; cases h)⟩
      exact AllReadyH.nil
     exact AllReadyH.nil
    exact AllReadyH.nil
   ·have HQ := Lib.hid (rread_not hq)
    have q1 : decide (textT (readB s) = s) = false := by simpa using hq
    have q2 : (textT (readB s) == s) = false := by simpa using hq
    clear hq
    generalize textT (readB s) = tt at *
    go_upto_region 20 with fail
    refine wp_region_held_drew (S := (fun W => W.cell? ⟨w.heap.size + 1, 0, none⟩ = some (.int .i64 yv) ∧ W.cell? ⟨w.heap.size + 1, 1, none⟩ = some (.slice ra xs.length rc))) (by kernel_rfl) ?_ (fun hHeld => ?_)
    ·exact ⟨p0, p1⟩
    refine hTk (i := 0) (d := some 105) (v := ?_) (fun o ho => ?_) hHeld ?_
    rotate_left
    ·simp only [zA, zB, zD] at ho
     subst ho
     refine ⟨by rfl, fun w hSw => ?_⟩
     (try dsimp only at hSw)
     go_simp
     try with_reducible rfl
    try simp only [Act.put, yA, yB, yC]
    refine hTk (i := 1) (d := some 106) (v := ?_) (fun o ho => ?_) hHeld ?_
    rotate_left
    ·simp only [zA, zB, zC, zD] at ho
     subst ho
     refine ⟨by rfl, fun w hSw => ?_⟩
     (try dsimp only at hSw)
     go_simp
     try with_reducible rfl
    try simp only [Act.put, yA, yB, yC]
    refine hTk (i := 3) (d := some 108) (v := ?_) (fun o ho => ?_) hHeld ?_
    rotate_left
    ·simp only [zA, zB, zC, zD] at ho
     subst ho
     refine ⟨by rfl, fun w hSw => ?_⟩
     (try dsimp only at hSw)
     go_simp
     try with_reducible rfl
    try simp only [Act.put, yA, yB, yC]
    refine wpAnyH_ready (rs := [2]) (by kernel_rfl) (by simp) ?_
    refine held_step (i := 2) (by kernel_rfl) (fun o ho K' hK => ?_) ?_
    ·simp only [zA, zB, zC, zD] at ho
     subst ho
     go_simp
     go_at_call 27
     refine (HTC.out _ (Ext.refl wo).drew).mono ?_
     rintro e w8 ⟨rfl, hx8⟩
     have hb8 := ((((Ext.refl wo).drew).trans hx8).block (Array.getElem?_eq_some_iff.1 hbx.out).1).trans hbx.out
     have hr8 := ((((Ext.refl wo).drew).trans hx8).block (Array.getElem?_eq_some_iff.1 HRZ.out).1).trans HRZ.out
     obtain ⟨z0, f0⟩ := block_cell hr8 (i := 0) rfl
     obtain ⟨z1, f1⟩ := block_cell hr8 (i := 1) rfl
     have hq0 := (block_cell hb8 (i := 0) rfl).1
     have hq1 := (block_cell hb8 (i := 1) rfl).1
     have HX8 := Lib.hid (((Ext.refl wo).drew).trans hx8)
     clear hb8 hr8 hx8
     refine hK.out _ _ ?_ (fun hHeld => ?_)
     ·exact ⟨hq0, hq1⟩
     clear hK K'
     try simp only [yA, yB, yC]
     refine hTk (i := 4) (d := some 109) (v := ?_) (fun o ho => ?_) hHeld ?_
     rotate_left
     ·simp only [zA, zB, zC, zD] at ho
      subst ho
      refine ⟨by rfl, fun w hSw => ?_⟩
      (try dsimp only at hSw)
      go_simp
      try with_reducible rfl
     try simp only [Act.put, yA, yB, yC]
     refine wpAnyH_ready (rs := [5]) (by kernel_rfl) (by simp) ?_
     refine held_step (i := 5) (by kernel_rfl) (fun o ho K' hK => ?_) ?_
     ·simp only [zA, zB, zC, zD] at ho
      subst ho
      go_simp
      refine hK.out _ _ ?_ (fun hHeld => ?_)
      ·exact ⟨((Touch.setCell (M := (· = w.heap.size)) (A := w8) (a := ⟨w.heap.size, 0, none⟩) _ rfl).trans (Touch.setCell (a := ⟨w.heap.size, 1, none⟩) _ rfl)).cell hq0 (by simp), ((Touch.setCell (M := (· = w.heap.size)) (A := w8) (a := ⟨w.heap.size, 0, none⟩) _ rfl).trans (Touch.setCell (a := ⟨w.heap.size, 1, none⟩) _ rfl)).cell hq1 (by simp)⟩
      clear hK K'
      try simp only [yA, yB, yC]
      refine wpAnyH_ready (rs := [6]) (by kernel_rfl) (by simp) ?_
      refine held_step (i := 6) (by kernel_rfl) (fun o ho K' hK => ?_) ?_
      ·simp only [zA, zB, zC, zD] at ho
       subst ho
       go_simp
       refine hK.out _ _ ?_ (fun hHeld => ?_)
       ·exact ⟨((Touch.setCell (M := (· = w.heap.size)) (A := w8) (a := ⟨w.heap.size, 0, none⟩) _ rfl).trans (Touch.setCell (a := ⟨w.heap.size, 1, none⟩) _ rfl)).cell hq0 (by simp), ((Touch.setCell (M := (· = w.heap.size)) (A := w8) (a := ⟨w.heap.size, 0, none⟩) _ rfl).trans (Touch.setCell (a := ⟨w.heap.size, 1, none⟩) _ rfl)).cell hq1 (by simp)⟩
       clear hK K'
       try simp only [yA, yB, yC]
       refine wpAnyH_done (by kernel_rfl) ?_ _
       try simp only [yA, yB, yC]
       clear hHeld
       go_wp2
       refine bodyPost_ret (v := .tuple #[.agg #[.int .i64 yv, .slice ra xs.length rc], .bool false]) (by simp [results, Tryz.results29, go_sem, *]) rfl (HEND.out false _ ?_ ?_ ?_)
       ·exact ((HXO.out.trans HX8.out).setCell (p := ⟨w.heap.size, 0, none⟩) (Nat.le_refl _) _).setCell (p := ⟨w.heap.size, 1, none⟩) (Nat.le_refl _) _
       ·exact ((HRV.out.ext HX8.out).touch (((Touch.setCell (M := (· = w.heap.size)) (A := w8) (a := ⟨w.heap.size, 0, none⟩) _ rfl).trans (Touch.setCell (a := ⟨w.heap.size, 1, none⟩) _ rfl)).mono (fun i hi => by omega))).at
       ·exact ⟨(by intro h; cases h), fun _ => HQ.out⟩
      exact AllReadyH.nil
     exact AllReadyH.nil
    exact AllReadyH.nil
end Go.Proofs.YtdmdabhdcpjkiaaGreatDoor
