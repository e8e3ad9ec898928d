/- The law's asked: a book's lists, or the error. -/
import Derived.Test.YtoohhefegfpipaaGreatDoorOls
namespace Go.Proofs.YtoohhefegfpipaaGreatDoor
open Go.RowKit
theorem ListsAt.over2 {W : World} {v : Value} {b : Book} {k : Nat} (h : ListsAt W v b) (hB : BookB b) (hb : W.heap[k]? = some (.cells #[.slice none 0 0, .slice none 0 0] 35 (0, 0))) (a0 a1 : Value) : ListsAt (putL2 W k a0 a1) v b := by
 obtain ⟨av, mv, rfl, h1, h2⟩ := h
 exact ⟨_, _, rfl, h1.over2 (perm_ne hB) hb _ _, h2.over2 rowM_ne hb _ _⟩
abbrev zeroL : Value := .agg #[.slice none 0 0, .slice none 0 0]
set_option maxRecDepth 100000 in
set_option maxHeartbeats 8000000 in
theorem lasked_bad (v : Value) (b : Book) (fine : Bool) (w : World) (hb : BookAt w v b) (h : (isBookB b && fine) = false) :
 Calls Tryz.prog 14 #[v, .bool fine] w fun e w' => e = .returned (.tuple #[zeroL, .int .i64 2]) ∧ Ext w w' := by
 have HBK := Lib.hid (fun W1 (h : Ext w W1) => rbook_any v b W1 (hb.ext h))
 obtain ⟨ga, gc, ea, ec, rfl, hgl, hel⟩ := hb.open
 obtain ⟨W, HW⟩ : ∃ W, Hid (W = (w.alloc (bookBox (.slice ga b.goods.length gc) b (.slice ea b.entries.length ec))).alloc zeroLB) := ⟨_, rfl⟩
 have HX0 := Lib.hid (show Ext w W by rw [HW.out]; exact ((Ext.refl w).alloc _).alloc _)
 have HBX := Lib.hid (show BoxAt W w.heap.size (.slice ga b.goods.length gc) b (.slice ea b.entries.length ec) by rw [HW.out]; exact BoxAt.ext (BoxAt.new _ _ _ _) ((Ext.refl _).alloc _))
 have HRB : Hid (W.heap[w.heap.size + 1]? = some (.cells #[.slice none 0 0, .slice none 0 0] 35 (0, 0))) := by
  unfold Hid
  rw [HW.out]
  have h := World.alloc_heap_new (w.alloc (bookBox (.slice ga b.goods.length gc) b (.slice ea b.entries.length ec))) zeroLB
  rwa [World.size_alloc] at h
 have HWS : Hid (W.heap.size = w.heap.size + 2) := by unfold Hid; rw [HW.out]; simp
 have HBB := Lib.hid (fun W2 (h : Ext W W2) => block2 ((h.block (by rw [HWS.out]; omega)).trans HRB.out))
 have HSB := Lib.hid (fun W2 (h : Ext W W2) => block2 (putL2_block ((h.block (by rw [HWS.out]; omega)).trans HRB.out) (.slice none 0 0) (.slice none 0 0)))
 clear hb hgl hel
 cases hq : isBookB b with
 | false =>
  rw [hq] at HBK
  clear hq h
  go_enter Tryz.func14, Tryz.ntmps14
  go_upto_region 1 with fail
  rw [← HW.out]
  obtain ⟨b0, b1, b2, b3⟩ := HBX.out
  go_wp2_with (go_at_call 22; refine (HBK.out _ HX0.out).mono ?_; rintro e w1 ⟨rfl, hx1⟩; have HX1 := Lib.hid hx1; obtain ⟨⟨z0, z1⟩, f0, f1⟩ := HBB.out _ hx1; clear hx1)
  obtain ⟨⟨r0, r1⟩, -⟩ := HSB.out _ HX1.out
  refine bodyPost_ret (v := .tuple #[zeroL, .int .i64 2]) (by simp only [putL2] at r0 r1; simp [results, Tryz.results14, go_sem, r0, r1]) rfl ?_
  exact ⟨rfl, putL2_ext (HX0.out.trans HX1.out) (by omega) _ _⟩
 | true =>
  rw [hq] at HBK
  obtain rfl : fine = false := by rw [hq] at h; simpa using h
  clear hq h
  go_enter Tryz.func14, Tryz.ntmps14
  go_upto_region 1 with fail
  rw [← HW.out]
  obtain ⟨b0, b1, b2, b3⟩ := HBX.out
  go_wp2_with (go_at_call 22; refine (HBK.out _ HX0.out).mono ?_; rintro e w1 ⟨rfl, hx1⟩; have HX1 := Lib.hid hx1; obtain ⟨⟨z0, z1⟩, f0, f1⟩ := HBB.out _ hx1; clear hx1)
  obtain ⟨⟨r0, r1⟩, -⟩ := HSB.out _ HX1.out
  refine bodyPost_ret (v := .tuple #[zeroL, .int .i64 2]) (by simp only [putL2] at r0 r1; simp [results, Tryz.results14, go_sem, r0, r1]) rfl ?_
  exact ⟨rfl, putL2_ext (HX0.out.trans HX1.out) (by omega) _ _⟩
set_option maxRecDepth 100000 in
set_option maxHeartbeats 8000000 in
theorem lasked_ok (v : Value) (b : Book) (w : World) (hb : BookAt w v b) (h : isBookB b = true) (z : Int) (hz : (if truthsB b = 0 then 7 else 0) = z) :
 Calls Tryz.prog 14 #[v, .bool true] w fun e w' => ∃ aa ac ma mc, e = .returned (.tuple #[.agg #[.slice aa (permsB b).length ac, .slice ma b.editions.toNat mc], .int .i64 z]) ∧ (∀ W2, Touch (fun j => j < w.heap.size) w' W2 → ListsAt W2 (.agg #[.slice aa (permsB b).length ac, .slice ma b.editions.toNat mc]) b) ∧ Ext w w' := by
 have HBK := Lib.hid (fun W1 (h : Ext w W1) => rbook_any v b W1 (hb.ext h))
 have hB := bookB_of h
 have HLS := Lib.hid (fun W1 (h : Ext w W1) => rlists_any v b W1 hB (hb.ext h))
 have HTR := Lib.hid (fun u W1 (hu : ListsAt W1 u b) => rtruths_any u b W1 hB hu)
 have HBB := Lib.hid hB
 rw [h] at HBK
 obtain ⟨ga, gc, ea, ec, rfl, hgl, hel⟩ := hb.open
 obtain ⟨W, HW⟩ : ∃ W, Hid (W = (w.alloc (bookBox (.slice ga b.goods.length gc) b (.slice ea b.entries.length ec))).alloc zeroLB) := ⟨_, rfl⟩
 have HX0 := Lib.hid (show Ext w W by rw [HW.out]; exact ((Ext.refl w).alloc _).alloc _)
 have HBX := Lib.hid (fun W2 (h : Ext W W2) => BoxAt.ext (show BoxAt W w.heap.size (.slice ga b.goods.length gc) b (.slice ea b.entries.length ec) by rw [HW.out]; exact BoxAt.ext (BoxAt.new _ _ _ _) ((Ext.refl _).alloc _)) h)
 have HRB : Hid (W.heap[w.heap.size + 1]? = some (.cells #[.slice none 0 0, .slice none 0 0] 35 (0, 0))) := by
  unfold Hid
  rw [HW.out]
  have h := World.alloc_heap_new (w.alloc (bookBox (.slice ga b.goods.length gc) b (.slice ea b.entries.length ec))) zeroLB
  rwa [World.size_alloc] at h
 have HWS : Hid (W.heap.size = w.heap.size + 2) := by unfold Hid; rw [HW.out]; simp
 have HRW := Lib.hid (fun W2 (h : Ext W W2) => (h.block (by rw [HWS.out]; omega)).trans HRB.out)
 clear hb hB hgl hel h
 by_cases ht : truthsB b = 0
 ·rw [if_pos ht] at hz
  subst hz
  rw [ht] at HTR
  clear ht
  go_enter Tryz.func14, Tryz.ntmps14
  go_upto_region 1 with fail
  rw [← HW.out]
  obtain ⟨b0, b1, b2, b3⟩ := HBX.out _ (Ext.refl _)
  go_wp2_with (first
   | (go_at_call 22; refine (HBK.out _ HX0.out).mono ?_; rintro e w1 ⟨rfl, hx1⟩; clear b0 b1 b2 b3; obtain ⟨b0, b1, b2, b3⟩ := HBX.out _ hx1; have HX1 := Lib.hid hx1; clear hx1 HBK)
   | (go_at_call 60; refine (HLS.out _ (HX0.out.trans HX1.out)).mono ?_; rintro e w2 ⟨aa, ac, ma, mc, rfl, ha2, hm2, hx2⟩; clear b0 b1 b2 b3 HLS; have HX2 := Lib.hid (HX1.out.trans hx2); have HL2 := Lib.hid (show ∀ W2, Touch (fun j => j < W.heap.size) w2 W2 → ListsAt W2 (.agg #[.slice aa (permsB b).length ac, .slice ma b.editions.toNat mc]) b from fun W2 k => ⟨_, _, rfl, ha2 W2 (k.mono (fun _ hj => Nat.lt_of_lt_of_le hj HX1.out.size)), hm2 W2 (k.mono (fun _ hj => Nat.lt_of_lt_of_le hj HX1.out.size))⟩); have HTU := Lib.hid (HTR.out _ _ (HL2.out _ (Touch.of_ext ((Ext.refl w2).alloc (.cells #[.slice aa (permsB b).length ac, .slice ma b.editions.toNat mc] 35))))); have y0 : (w2.alloc (.cells #[.slice aa (permsB b).length ac, .slice ma b.editions.toNat mc] 35)).cell? ⟨w2.heap.size, 0, none⟩ = some (.slice aa (permsB b).length ac) := (by go_simp); have y1 : (w2.alloc (.cells #[.slice aa (permsB b).length ac, .slice ma b.editions.toNat mc] 35)).cell? ⟨w2.heap.size, 1, none⟩ = some (.slice ma b.editions.toNat mc) := (by go_simp); clear hx2 ha2 hm2)
   | (go_at_call 15; refine HTU.out.mono ?_; rintro e w3 ⟨rfl, hx3⟩; have u0 := hx3.cell y0; have u1 := hx3.cell y1; have HX3 := Lib.hid (HX2.out.trans (((Ext.refl w2).alloc _).trans hx3)); have HT3 := Lib.hid (Touch.of_ext (M := fun j => j < W.heap.size) (((Ext.refl w2).alloc (.cells #[.slice aa (permsB b).length ac, .slice ma b.editions.toNat mc] 35)).trans hx3)); obtain ⟨⟨z0, z1⟩, f0, f1⟩ := block2 (HRW.out _ HX3.out); clear hx3 y0 y1 HTU))
  obtain ⟨⟨r0, r1⟩, -⟩ := block2 (putL2_block (HRW.out _ HX3.out) (.slice aa (permsB b).length ac) (.slice ma b.editions.toNat mc))
  refine bodyPost_ret (v := .tuple #[.agg #[.slice aa (permsB b).length ac, .slice ma b.editions.toNat mc], .int .i64 7]) (by simp only [putL2] at r0 r1; simp [results, Tryz.results14, go_sem, r0, r1]) rfl ?_
  refine ⟨_, _, _, _, rfl, fun W2 k => HL2.out W2 ((HT3.out.trans ((Touch.setCell (a := ⟨w.heap.size + 1, 0, none⟩) _ (by rw [HWS.out]; simp)).trans (Touch.setCell (a := ⟨w.heap.size + 1, 1, none⟩) _ (by rw [HWS.out]; simp)))).trans (k.mono (fun j hj => by have := HWS.out; omega))), putL2_ext (HX0.out.trans HX3.out) (by omega) _ _⟩
 ·rw [if_neg ht] at hz
  subst hz
  have t1 : (truthsB b == 0) = false := by simpa using ht
  generalize truthsB b = T at *
  clear ht
  go_enter Tryz.func14, Tryz.ntmps14
  go_upto_region 1 with fail
  rw [← HW.out]
  obtain ⟨b0, b1, b2, b3⟩ := HBX.out _ (Ext.refl _)
  go_wp2_with (first
   | (go_at_call 22; refine (HBK.out _ HX0.out).mono ?_; rintro e w1 ⟨rfl, hx1⟩; clear b0 b1 b2 b3; obtain ⟨b0, b1, b2, b3⟩ := HBX.out _ hx1; have HX1 := Lib.hid hx1; clear hx1 HBK)
   | (go_at_call 60; refine (HLS.out _ (HX0.out.trans HX1.out)).mono ?_; rintro e w2 ⟨aa, ac, ma, mc, rfl, ha2, hm2, hx2⟩; clear b0 b1 b2 b3 HLS; have HX2 := Lib.hid (HX1.out.trans hx2); have HL2 := Lib.hid (show ∀ W2, Touch (fun j => j < W.heap.size) w2 W2 → ListsAt W2 (.agg #[.slice aa (permsB b).length ac, .slice ma b.editions.toNat mc]) b from fun W2 k => ⟨_, _, rfl, ha2 W2 (k.mono (fun _ hj => Nat.lt_of_lt_of_le hj HX1.out.size)), hm2 W2 (k.mono (fun _ hj => Nat.lt_of_lt_of_le hj HX1.out.size))⟩); have HTU := Lib.hid (HTR.out _ _ (HL2.out _ (Touch.of_ext ((Ext.refl w2).alloc (.cells #[.slice aa (permsB b).length ac, .slice ma b.editions.toNat mc] 35))))); have y0 : (w2.alloc (.cells #[.slice aa (permsB b).length ac, .slice ma b.editions.toNat mc] 35)).cell? ⟨w2.heap.size, 0, none⟩ = some (.slice aa (permsB b).length ac) := (by go_simp); have y1 : (w2.alloc (.cells #[.slice aa (permsB b).length ac, .slice ma b.editions.toNat mc] 35)).cell? ⟨w2.heap.size, 1, none⟩ = some (.slice ma b.editions.toNat mc) := (by go_simp); clear hx2 ha2 hm2)
   | (go_at_call 15; refine HTU.out.mono ?_; rintro e w3 ⟨rfl, hx3⟩; have u0 := hx3.cell y0; have u1 := hx3.cell y1; have HX3 := Lib.hid (HX2.out.trans (((Ext.refl w2).alloc _).trans hx3)); have HT3 := Lib.hid (Touch.of_ext (M := fun j => j < W.heap.size) (((Ext.refl w2).alloc (.cells #[.slice aa (permsB b).length ac, .slice ma b.editions.toNat mc] 35)).trans hx3)); obtain ⟨⟨z0, z1⟩, f0, f1⟩ := block2 (HRW.out _ HX3.out); clear hx3 y0 y1 HTU))
  obtain ⟨⟨r0, r1⟩, -⟩ := block2 (putL2_block (HRW.out _ HX3.out) (.slice aa (permsB b).length ac) (.slice ma b.editions.toNat mc))
  refine bodyPost_ret (v := .tuple #[.agg #[.slice aa (permsB b).length ac, .slice ma b.editions.toNat mc], .int .i64 0]) (by simp only [putL2] at r0 r1; simp [results, Tryz.results14, go_sem, r0, r1]) rfl ?_
  refine ⟨_, _, _, _, rfl, fun W2 k => HL2.out W2 ((HT3.out.trans ((Touch.setCell (a := ⟨w.heap.size + 1, 0, none⟩) _ (by rw [HWS.out]; simp)).trans (Touch.setCell (a := ⟨w.heap.size + 1, 1, none⟩) _ (by rw [HWS.out]; simp)))).trans (k.mono (fun j hj => by have := HWS.out; omega))), putL2_ext (HX0.out.trans HX3.out) (by omega) _ _⟩
end Go.Proofs.YtoohhefegfpipaaGreatDoor
