/- river.read: the book of a text, or giving up. -/
import Derived.Test.YtdmdabhdcpjkiaaGreatDoorReadp
namespace Go.Proofs.YtdmdabhdcpjkiaaGreatDoor
open Go.RowKit
theorem pieces_pos (s : List UInt8) : 1 ≤ (splitL 10 s).length := List.length_pos_iff.2 (splitL_ne 10 s)
set_option maxRecDepth 100000 in
set_option maxHeartbeats 8000000 in
theorem read_e0 (s : List UInt8) (w : World) (ht : TabOk w) (hm : MaxOk w) (hs : s.length ≤ 300) (q0 : toldOk wBook 2 (lineAt s 0) = false) : Calls Tryz.prog 64 #[strV s] w (ReadPost s w) := by
 have HSP := Lib.hid (fun w1 (hx : Ext w w1) => split_any s 10 w1 (hm.ext hx) (by omega))
 have HT0 := Lib.hid (fun w1 (hx : Ext w w1) => told_no (lineAt s 0) wBook 2 w1 (ht.ext hx) (hm.ext hx) (by have := lineAt_short s 0; omega) ⟨by omega, by omega⟩ q0)
 have HN : Hid (¬ ∃ b, TextOf s b) := fun ⟨b, hb⟩ => by have := (text_head hb).1; rw [q0] at this; cases this
 have HX0 := Lib.hid ((Ext.refl w).alloc (.cells #[.int .i64 0, .slice none 0 0] 24))
 have HG := Lib.hid (lineAt_get (s := s) (i := 0) (by have := pieces_pos s; omega))
 have hL1 := pieces_pos s
 obtain ⟨L, hL⟩ : ∃ L, (splitL 10 s).length = L := ⟨_, rfl⟩
 rw [hL] at HSP hL1
 have b0 : (0 : Int) < (L : Int) := by omega
 have b0n : 0 < L := by omega
 clear ht hm q0 hL
 go_enter Tryz.func64, Tryz.ntmps64
 go_wp2_with (first
  | (go_at_call 114; refine (HSP.out _ HX0.out).mono ?_; rintro e w1 ⟨b, rfl, hx1, hst⟩; have z0 := strs_cell hst HG.out; have hy1 := HX0.out.trans hx1; clear hst)
  | (go_at_call 115; refine (HT0.out _ hy1).mono ?_; rintro e w2 ⟨why, rfl, hx2⟩))
 exact ⟨rfl, .inr ⟨HN.out, why, rfl, hy1.trans hx2⟩⟩
set_option maxRecDepth 100000 in
set_option maxHeartbeats 8000000 in
theorem read_e1 (s : List UInt8) (w : World) (ht : TabOk w) (hm : MaxOk w) (hs : s.length ≤ 300) (q0 : toldOk wBook 2 (lineAt s 0) = true) (qL : ¬ (splitL 10 s).length = manyOf s + 3) : Calls Tryz.prog 64 #[strV s] w (ReadPost s w) := by
 have HSP := Lib.hid (fun w1 (hx : Ext w w1) => split_any s 10 w1 (hm.ext hx) (by omega))
 have HT0 := Lib.hid (fun w1 (hx : Ext w w1) => told_ok (lineAt s 0) wBook 2 w1 (ht.ext hx) (hm.ext hx) (by have := lineAt_short s 0; omega) ⟨by omega, by omega⟩ q0)
 have HSN := Lib.hid sure_no
 have HN : Hid (¬ ∃ b, TextOf s b) := fun ⟨b, hb⟩ => qL (text_lines hb).n
 have HX0 := Lib.hid ((Ext.refl w).alloc (.cells #[.int .i64 0, .slice none 0 0] 24))
 have HG := Lib.hid (lineAt_get (s := s) (i := 0) (by have := pieces_pos s; omega))
 have hL1 := pieces_pos s
 obtain ⟨hl0, hs0, -⟩ := told_line q0
 obtain ⟨y, n, hyn⟩ := two_of hl0
 rw [hyn] at hs0
 have hn := hs0 n (by simp)
 obtain ⟨N, rfl⟩ : ∃ N : Nat, n = (N : Int) := ⟨n.toNat, by omega⟩
 have hmo : manyOf s = N := by unfold manyOf; rw [hyn]; simp
 rw [hmo] at qL
 have HYN := Lib.hid hyn
 obtain ⟨L, hL⟩ : ∃ L, (splitL 10 s).length = L := ⟨_, rfl⟩
 rw [hL] at HSP hL1 qL
 have b0 : (0 : Int) < (L : Int) := by omega
 have b0n : 0 < L := by omega
 have E1 : IntKind.i64.wrap ((N : Int) + 3) = (N : Int) + 3 := IntWalk.i64_in _ (by omega)
 have t1 : ((L : Int) == (N : Int) + 3) = false := by rw [beq_eq_false_iff_ne]; omega
 clear ht hm q0 hL hl0 hs0 hyn hmo qL
 go_enter Tryz.func64, Tryz.ntmps64
 go_wp2_with (first
  | (go_at_call 114; refine (HSP.out _ HX0.out).mono ?_; rintro e w1 ⟨b, rfl, hx1, hst⟩; have z0 := strs_cell hst HG.out; have hy1 := HX0.out.trans hx1; clear hst)
  | (go_at_call 115; refine (HT0.out _ hy1).mono ?_; rintro e w2 ⟨v1, rfl, hx2, hv1⟩; rw [HYN.out] at hv1; obtain ⟨hb, hcap, rfl⟩ := owns_succ (show w2.ownsRow w1.heap.size 3 1 v1 (1 + 1) _ from hv1); have a1 := hv1.cellAt 1 (by simp); simp only [List.map_cons, List.map_nil, List.getElem?_cons_zero, List.getElem?_cons_succ] at a1; clear hv1)
  | (go_at_call 116; refine (HSN.out _ _).mono ?_; rintro e w3 ⟨why, rfl, hx3⟩))
 exact ⟨rfl, .inr ⟨HN.out, why, rfl, (hy1.trans hx2).trans hx3⟩⟩
set_option maxRecDepth 100000 in
set_option maxHeartbeats 16000000 in
theorem read_main (s : List UInt8) (w : World) (ht : TabOk w) (hm : MaxOk w) (hs : s.length ≤ 300) (q0 : toldOk wBook 2 (lineAt s 0) = true) (qL : (splitL 10 s).length = manyOf s + 3) : Calls Tryz.prog 64 #[strV s] w (ReadPost s w) := by
 have HSP := Lib.hid (fun w1 (hx : Ext w w1) => split_any s 10 w1 (hm.ext hx) (by omega))
 have HT0 := Lib.hid (fun w1 (hx : Ext w w1) => told_ok (lineAt s 0) wBook 2 w1 (ht.ext hx) (hm.ext hx) (by have := lineAt_short s 0; omega) ⟨by omega, by omega⟩ q0)
 have HSU := Lib.hid sure_yes
 have HSN := Lib.hid sure_no
 have HX0 := Lib.hid ((Ext.refl w).alloc (.cells #[.int .i64 0, .slice none 0 0] 24))
 have HG := Lib.hid (fun i (hi : i < (splitL 10 s).length) => lineAt_get (s := s) (i := i) hi)
 have hL1 := pieces_pos s
 have hpc := split_count 10 s
 obtain ⟨hl0, hs0, -⟩ := told_line q0
 obtain ⟨y, n, hyn⟩ := two_of hl0
 rw [hyn] at hs0
 have hn := hs0 n (by simp)
 have hy := hs0 y (by simp)
 obtain ⟨N, rfl⟩ : ∃ N : Nat, n = (N : Int) := ⟨n.toNat, by omega⟩
 obtain ⟨Y, rfl⟩ : ∃ Y : Nat, y = (Y : Int) := ⟨y.toNat, by omega⟩
 have HMO : Hid (manyOf s = N) := by unfold Hid manyOf; rw [hyn]; simp
 have HYO : Hid (yearsOf s = Y) := by unfold Hid yearsOf; rw [hyn]; simp
 rw [HMO.out] at qL
 have HYN := Lib.hid hyn
 have HQ0 := Lib.hid q0
 have HTO := Lib.hid (fun i w1 (hx : Ext w w1) (h : toldOk wRiver (2 * Y + 2) (lineAt s i) = true) => told_ok (lineAt s i) wRiver (2 * Y + 2) w1 (ht.ext hx) (hm.ext hx) (by have := lineAt_short s i; omega) ⟨by omega, by omega⟩ h)
 have HTN := Lib.hid (fun i w1 (hx : Ext w w1) (h : toldOk wRiver (2 * Y + 2) (lineAt s i) = false) => told_no (lineAt s i) wRiver (2 * Y + 2) w1 (ht.ext hx) (hm.ext hx) (by have := lineAt_short s i; omega) ⟨by omega, by omega⟩ h)
 have HTX := Lib.hid (fun v b w1 (hx : Ext w w1) (hr : BookAt w1 v b) (hB : TextB b) => text_any v b w1 hr hB (ht.ext hx))
 have HPC := Lib.hid qL
 rw [qL] at HSP hpc
 have b0 : (0 : Int) < ((N + 3 : Nat) : Int) := by omega
 have b0n : 0 < N + 3 := by omega
 have hN : N ≤ 300 := by omega
 have E1 : IntKind.i64.wrap ((N : Int) + 3) = (N : Int) + 3 := IntWalk.i64_in _ (by omega)
 have E2 : IntKind.i64.wrap ((N : Int) + 1) = (N : Int) + 1 := IntWalk.i64_in _ (by omega)
 have e1 : (1 : Int) ≤ (N : Int) + 1 := by omega
 have e2 : (N : Int) + 1 ≤ ((N + 3 : Nat) : Int) := by omega
 have e3 : (N : Int) + 1 ≤ (N : Int) + 3 := by omega
 have e4 : ((N : Int) + 1).toNat = N + 1 := by omega
 have t1 : (((N + 3 : Nat) : Int) == (N : Int) + 3) = true := by simp
 have t1' : ((N : Int) + 3 == (N : Int) + 3) = true := by simp
 clear ht hm q0 hl0 hs0 hyn qL hL1 hpc
 go_enter Tryz.func64, Tryz.ntmps64
 go_upto_region 5 with (first
  | (go_at_call 114; refine (HSP.out _ HX0.out).mono ?_; rintro e w1 ⟨b, rfl, hx1, hst⟩; have z0 := strs_cell hst (HG.out 0 (by rw [HPC.out]; omega)); have hy1 := HX0.out.trans hx1; have HST := Lib.hid hst; clear hst)
  | (go_at_call 115; refine (HT0.out _ hy1).mono ?_; rintro e w2 ⟨v1, rfl, hx2, hv1⟩; rw [HYN.out] at hv1; obtain ⟨hb, hcap, rfl⟩ := owns_succ (show w2.ownsRow w1.heap.size 3 1 v1 (1 + 1) _ from hv1); have a0 := hv1.cellAt 0 (by simp); have a1 := hv1.cellAt 1 (by simp); simp only [List.map_cons, List.map_nil, List.getElem?_cons_zero, List.getElem?_cons_succ] at a0 a1; have HVB := Lib.hid (World.ownsRow.lt hv1 hb rfl); clear hv1)
  | (go_at_call 116; refine (HSU.out _ _).mono ?_; rintro e w3 ⟨rfl, rfl⟩))
 obtain ⟨W5, hW5⟩ : ∃ W5, W5 = w3.alloc (.cells #[.int .i64 (Y : Int), .slice none 0 0] 24) := ⟨_, rfl⟩
 have hx35 : Ext w3 W5 := by rw [hW5]; exact (Ext.refl w3).alloc _
 have HB5 : Hid (W5.heap[w3.heap.size]? = some (.cells #[.int .i64 (Y : Int), .slice none 0 0] 24 (0, 0))) := by rw [hW5]; exact World.alloc_heap_new w3 _
 have a1b := hx35.cell a1
 have HA0 := Lib.hid a0
 have hyw := hy1.trans hx2
 have HYW := Lib.hid hyw
 have HX2 := Lib.hid hx2
 have HZ3 := Lib.hid (((hx1.trans hx2).block (b := w.heap.size) (by simp)).trans (World.alloc_heap_new w (.cells #[.int .i64 0, .slice none 0 0] 24)))
 rw [← hW5]
 clear hW5 z0 a0 a1 hyw hy1 hx1 hx2
 go_wp2
 clear a1b E1 t1 t1' e1 e2 e3 e4 b0 b0n E2
 go_loopw [37] (fun i wr => ∃ (k : Nat) (rv : Value) (xs : List (Value × River)), k ≤ N ∧ i = .int .i64 k ∧ Hid (xs.map Prod.snd = riversOf s k) ∧ Hid (wr.heap[w3.heap.size]? = some (.cells #[.int .i64 (Y : Int), rv] 24 (0, 0))) ∧ Hid (wr.ownsRow (w3.heap.size + 1) 73 3 rv k (xs.flatMap riverC)) ∧ Hid (∀ x, x ∈ xs → PairsAt wr x.1 x.2.grow ∧ OffV (fun i => i ≤ w3.heap.size ∨ rv.ownBlock = some i ∨ wr.heap.size ≤ i) x.1) ∧ Hid (∀ j, j < k → toldOk wRiver (2 * Y + 2) (lineAt s (j + 1)) = true) ∧ Ext w3 wr) (fun i _ => N - (intOf i).toNat)
 case atStart => exact ⟨0, .slice none 0 0, [], Nat.zero_le _, rfl, rfl, HB5, (by exact World.ownsRow_nil _ _ _ _), (by intro x hx; exact absurd hx (by simp)), (by intro j hj; omega), hx35⟩
 case round =>
  clear HB5 hx35
  obtain ⟨k, rv, xs, hk, rfl, hxs, hbx, hown, hpa, hall, hx⟩ := hrel
  obtain ⟨wo, rfl⟩ : ∃ wo : World, wo = wr := ⟨_, rfl⟩
  by_cases hlt : k < N
  ·have z1 : wo.cell? ⟨b, 1 + k, none⟩ = some (strV (lineAt s (k + 1))) := by rw [Nat.add_comm]; exact (HX2.out.trans hx).cell (strs_cell HST.out (HG.out (k + 1) (by rw [HPC.out]; omega)))
   have x1 : decide ((k : Int) < (N : Int)) = true := by simpa using hlt
   have x2 : (k : Int) < (N : Int) := by omega
   have x3 : (0 : Int) ≤ (k : Int) := by omega
   have a0 := hx.cell HA0.out
   have E3 : IntKind.i64.wrap (2 * (Y : Int)) = 2 * (Y : Int) := IntWalk.i64_in _ (by omega)
   have E4 : IntKind.i64.wrap (2 * (Y : Int) + 2) = 2 * (Y : Int) + 2 := IntWalk.i64_in _ (by omega)
   have hcast : ((2 * Y + 2 : Nat) : Int) = 2 * (Y : Int) + 2 := by omega
   have HX := Lib.hid hx
   cases q2 : toldOk wRiver (2 * Y + 2) (lineAt s (k + 1)) with
   | false =>
    have HNO : Hid (¬ ∃ b, TextOf s b) := fun ⟨b, hb⟩ => by
     have := (text_lines hb).h2 k (by rw [HMO.out]; exact hlt)
     rw [HYO.out, q2] at this; cases this
    have HT := Lib.hid (fun w1 hx => HTN.out (k + 1) w1 hx q2)
    rw [hcast] at HT
    clear q2 hcast hx
    go_wp2_with (go_at_call 115; refine (HT.out _ (HYW.out.trans HX.out)).mono ?_; rintro e w6 ⟨why, rfl, hx6⟩)
    exact ⟨rfl, .inr ⟨HNO.out, why, rfl, (HYW.out.trans HX.out).trans hx6⟩⟩
   | true =>
    have HT := Lib.hid (fun w1 hx => HTO.out (k + 1) w1 hx q2)
    rw [hcast] at HT
    have HQ2 := Lib.hid q2
    obtain ⟨hln, hsm, -⟩ := told_line q2
    obtain ⟨ns, hns⟩ : ∃ ns, toldN (lineAt s (k + 1)) = ns := ⟨_, rfl⟩
    rw [hns] at HT hln hsm
    have HNS := Lib.hid hns
    have HLN := Lib.hid hln
    have HSM := Lib.hid hsm
    clear q2 hcast hx hns hsm
    go_upto_region 9 with (go_at_call 115; refine (HT.out _ (HYW.out.trans HX.out)).mono ?_; rintro e w6 ⟨v9, rfl, hx6, hv9⟩; obtain ⟨nb, nc, rfl⟩ := owns_succ (show w6.ownsRow wo.heap.size 3 1 v9 (2 * Y + 1 + 1) _ from (show ns.length = 2 * Y + 1 + 1 from hln) ▸ hv9))
    have HNC := Lib.hid (fun (i : Nat) (hi : i < 2 * Y + 2) (W : World) (h : Ext w6 W) => h.cell (show w6.cell? ⟨nb, i, none⟩ = some (.int .i64 (ns.getD i 0)) from by
     have h9 : w6.ownsRow wo.heap.size 3 1 (.slice (some ⟨nb, 0, none⟩) (2 * Y + 1 + 1) nc) (2 * Y + 1 + 1) (ns.map (.int .i64)) := (show ns.length = 2 * Y + 1 + 1 from hln) ▸ hv9
     have h := h9.cellAt i (by omega)
     rw [h, List.getElem?_map, List.getD_eq_getElem?_getD, List.getElem?_eq_getElem (by rw [hln]; exact hi)]; rfl))
    have HX6 := Lib.hid hx6
    have hza := (Ext.refl w6).alloc (.cells #[.slice none 0 0, .int .i64 0, .int .i64 0] 73)
    have c0 := HNC.out 0 (by omega) _ (Ext.refl _)
    have c1 := HNC.out 1 (by omega) _ (Ext.refl _)
    have c0' := hza.cell c0
    have c1' := hza.cell c1
    have d0 : (0 : Int) < 2 * (Y : Int) + 1 + 1 := by omega
    have d1 : (1 : Int) < 2 * (Y : Int) + 1 + 1 := by omega
    obtain ⟨n0, hn0⟩ : ∃ x, ns.getD 0 0 = x := ⟨_, rfl⟩
    obtain ⟨n1, hn1⟩ : ∃ x, ns.getD 1 0 = x := ⟨_, rfl⟩
    rw [hn0] at c0 c0'
    rw [hn1] at c1 c1'
    have HN01 := Lib.hid (And.intro hn0 hn1)
    clear hn0 hn1
    clear hv9 hx6 hln
    go_region
    obtain ⟨W9, hW9⟩ : ∃ W9, W9 = (w6.alloc (.cells #[.slice none 0 0, .int .i64 n0, .int .i64 n1] 73)).drew := ⟨_, rfl⟩
    have hx69 : Ext w6 W9 := by rw [hW9]; exact ((Ext.refl w6).alloc _).drew
    have HB9 : Hid (W9.heap[w6.heap.size]? = some (.cells #[.slice none 0 0, .int .i64 n0, .int .i64 n1] 73 (0, 0))) := by rw [hW9]; exact World.alloc_heap_new w6 _
    have a09 := (HX.out.trans (HX6.out.trans hx69)).cell HA0.out
    have HQL : Hid (w6.heap.size + 1 ≤ W9.heap.size) := by unfold Hid; rw [hW9]; simp
    rw [← hW9]
    clear hW9 c0 c1 c0' c1' hza z1 a0
    go_wp2
    go_loopw [58] (fun i wq => ∃ (j : Nat) (gv : Value), j ≤ Y ∧ i = .int .i64 j ∧ Hid (wq.heap[w6.heap.size]? = some (.cells #[gv, .int .i64 n0, .int .i64 n1] 73 (0, 0))) ∧ Hid (wq.ownsRow (w6.heap.size + 1) 52 2 gv j ((tellG ns j).flatMap pairC)) ∧ Ext w6 wq) (fun i _ => Y - (intOf i).toNat)
    case atStart => exact ⟨0, .slice none 0 0, Nat.zero_le _, rfl, HB9, (by exact World.ownsRow_nil _ _ _ _), hx69⟩
    case round =>
     clear a09 HB9 hx69
     obtain ⟨j, gv, hj, rfl, HBQ, HO, hxq⟩ := hrel
     by_cases hjl : j < Y
     ·have y1 : decide ((j : Int) < (Y : Int)) = true := by simpa using hjl
      have F1 : IntKind.i64.wrap (2 * (j : Int)) = 2 * (j : Int) := IntWalk.i64_in _ (by omega)
      have F2 : IntKind.i64.wrap (2 * (j : Int) + 2) = 2 * (j : Int) + 2 := IntWalk.i64_in _ (by omega)
      have F3 : IntKind.i64.wrap (2 * (j : Int) + 3) = 2 * (j : Int) + 3 := IntWalk.i64_in _ (by omega)
      have f1 : (0 : Int) ≤ 2 * (j : Int) + 2 := by omega
      have f2 : 2 * (j : Int) + 2 < 2 * (Y : Int) + 1 + 1 := by omega
      have f3 : (0 : Int) ≤ 2 * (j : Int) + 3 := by omega
      have f4 : 2 * (j : Int) + 3 < 2 * (Y : Int) + 1 + 1 := by omega
      have f5 : (2 * (j : Int) + 2).toNat = 2 * j + 2 := by omega
      have f6 : (2 * (j : Int) + 3).toNat = 2 * j + 3 := by omega
      have HTG := Lib.hid (tellG_succ ns j)
      have HNJ := Lib.hid (And.intro (HNC.out (2 * j + 2) (by omega)) (HNC.out (2 * j + 3) (by omega)))
      generalize ns.getD (2 * j + 2) 0 = m0 at HNJ HTG
      generalize ns.getD (2 * j + 3) 0 = m1 at HNJ HTG
      obtain ⟨va, vc, rfl, _⟩ := RowAt.open (RowAt.of_owns HO.out)
      have g0 := (block_cell HBQ.out (i := 0) rfl).1
      have g1 := (block_cell HBQ.out (i := 0) rfl).2
      have g2 := HNJ.out.1 _ hxq
      have g3 := HNJ.out.2 _ hxq
      have HSZ := Lib.hid (show j + 1 ≤ maxLen ∧ (j + 1) * 16 ≤ 140737488355328 by unfold maxLen; omega)
      have HXQ := Lib.hid hxq
      clear hxq
      go_wp2
      go_upto_region 13 with fail
      refine wp_region_noPanic ?_
      refine wp_region_any (by kernel_rfl) (wpAny_of_till (z := 18) (S := (fun w' => w'.cell? ⟨w6.heap.size, 0, none⟩ = some (.slice va j vc) ∧ w'.frozen? ⟨w6.heap.size, 0, none⟩ = false ∧ w'.cell? ⟨nb, 2 * j + 2, none⟩ = some (.int .i64 m0) ∧ w'.cell? ⟨nb, 2 * j + 3, none⟩ = some (.int .i64 m1))) _ _ _ _ ?_)
      change wpTill _ _ _ _ _ _ _ _ _ wr.drew
      have hS0 := (show (World.drew wr).cell? ⟨w6.heap.size, 0, none⟩ = some (.slice va j vc) ∧ (World.drew wr).frozen? ⟨w6.heap.size, 0, none⟩ = false ∧ (World.drew wr).cell? ⟨nb, 2 * j + 2, none⟩ = some (.int .i64 m0) ∧ (World.drew wr).cell? ⟨nb, 2 * j + 3, none⟩ = some (.int .i64 m1) from ⟨g0, g1, g2, g3⟩)
      refine till_at (i := 0) (d := some 61) (v := ?_) (by kernel_rfl) (by kernel_rfl) (by kernel_rfl) (by kernel_rfl) (by kernel_rfl) (fun _ _ _ h => h) (fun o ho => ?_) hS0 ?_
      rotate_left
      ·simp only [zA, zB, zD] at ho
       subst ho
       refine Or.inl ⟨by rfl, fun w' hSw => ?_⟩
       obtain ⟨hSw0, hSw1, hSw2, hSw3⟩ := hSw
       go_simp
       try with_reducible rfl
      try simp only [Act.put, yA, yB, yC]
      refine till_at (i := 1) (d := some 62) (v := ?_) (by kernel_rfl) (by kernel_rfl) (by kernel_rfl) (by kernel_rfl) (by kernel_rfl) (fun _ _ _ h => h) (fun o ho => ?_) hS0 ?_
      rotate_left
      ·simp only [zA, zB, zC, zD] at ho
       subst ho
       refine Or.inl ⟨by rfl, fun w' hSw => ?_⟩
       obtain ⟨hSw0, hSw1, hSw2, hSw3⟩ := hSw
       go_simp
       try with_reducible rfl
      try simp only [Act.put, yA, yB, yC]
      refine till_at (i := 2) (d := some 63) (v := ?_) (by kernel_rfl) (by kernel_rfl) (by kernel_rfl) (by kernel_rfl) (by kernel_rfl) (fun _ _ _ h => h) (fun o ho => ?_) hS0 ?_
      rotate_left
      ·simp only [zA, zB, zC, zD] at ho
       subst ho
       refine Or.inl ⟨by rfl, fun w' hSw => ?_⟩
       obtain ⟨hSw0, hSw1, hSw2, hSw3⟩ := hSw
       go_simp
       try with_reducible rfl
      try simp only [Act.put, yA, yB, yC]
      refine till_at (i := 3) (d := some 64) (v := ?_) (by kernel_rfl) (by kernel_rfl) (by kernel_rfl) (by kernel_rfl) (by kernel_rfl) (fun _ _ _ h => h) (fun o ho => ?_) hS0 ?_
      rotate_left
      ·simp only [zA, zB, zC, zD] at ho
       subst ho
       refine Or.inl ⟨by rfl, fun w' hSw => ?_⟩
       obtain ⟨hSw0, hSw1, hSw2, hSw3⟩ := hSw
       go_simp
       try with_reducible rfl
      try simp only [Act.put, yA, yB, yC]
      refine till_at (i := 4) (d := some 65) (v := ?_) (by kernel_rfl) (by kernel_rfl) (by kernel_rfl) (by kernel_rfl) (by kernel_rfl) (fun _ _ _ h => h) (fun o ho => ?_) hS0 ?_
      rotate_left
      ·simp only [zA, zB, zC, zD] at ho
       subst ho
       refine Or.inl ⟨by rfl, fun w' hSw => ?_⟩
       obtain ⟨hSw0, hSw1, hSw2, hSw3⟩ := hSw
       go_simp
       try with_reducible rfl
      try simp only [Act.put, yA, yB, yC]
      refine till_at (i := 5) (d := some 66) (v := ?_) (by kernel_rfl) (by kernel_rfl) (by kernel_rfl) (by kernel_rfl) (by kernel_rfl) (fun _ _ _ h => h) (fun o ho => ?_) hS0 ?_
      rotate_left
      ·simp only [zA, zB, zC, zD] at ho
       subst ho
       refine Or.inl ⟨by rfl, fun w' hSw => ?_⟩
       obtain ⟨hSw0, hSw1, hSw2, hSw3⟩ := hSw
       go_simp
       try with_reducible rfl
      try simp only [Act.put, yA, yB, yC]
      refine till_at (i := 6) (d := some 67) (v := ?_) (by kernel_rfl) (by kernel_rfl) (by kernel_rfl) (by kernel_rfl) (by kernel_rfl) (fun _ _ _ h => h) (fun o ho => ?_) hS0 ?_
      rotate_left
      ·simp only [zA, zB, zC, zD] at ho
       subst ho
       refine Or.inl ⟨by rfl, fun w' hSw => ?_⟩
       obtain ⟨hSw0, hSw1, hSw2, hSw3⟩ := hSw
       go_simp
       try with_reducible rfl
      try simp only [Act.put, yA, yB, yC]
      refine till_at (i := 7) (d := some 68) (v := ?_) (by kernel_rfl) (by kernel_rfl) (by kernel_rfl) (by kernel_rfl) (by kernel_rfl) (fun _ _ _ h => h) (fun o ho => ?_) hS0 ?_
      rotate_left
      ·simp only [zA, zB, zC, zD] at ho
       subst ho
       refine Or.inl ⟨by rfl, fun w' hSw => ?_⟩
       obtain ⟨hSw0, hSw1, hSw2, hSw3⟩ := hSw
       go_simp
       try with_reducible rfl
      try simp only [Act.put, yA, yB, yC]
      refine till_at (i := 8) (d := some 69) (v := ?_) (by kernel_rfl) (by kernel_rfl) (by kernel_rfl) (by kernel_rfl) (by kernel_rfl) (fun _ _ _ h => h) (fun o ho => ?_) hS0 ?_
      rotate_left
      ·simp only [zA, zB, zC, zD] at ho
       subst ho
       refine Or.inl ⟨by rfl, fun w' hSw => ?_⟩
       obtain ⟨hSw0, hSw1, hSw2, hSw3⟩ := hSw
       go_simp
       try with_reducible rfl
      try simp only [Act.put, yA, yB, yC]
      refine till_at (i := 9) (d := some 70) (v := ?_) (by kernel_rfl) (by kernel_rfl) (by kernel_rfl) (by kernel_rfl) (by kernel_rfl) (fun _ _ _ h => h) (fun o ho => ?_) hS0 ?_
      rotate_left
      ·simp only [zA, zB, zC, zD] at ho
       subst ho
       refine Or.inl ⟨by rfl, fun w' hSw => ?_⟩
       obtain ⟨hSw0, hSw1, hSw2, hSw3⟩ := hSw
       go_simp
       try with_reducible rfl
      try simp only [Act.put, yA, yB, yC]
      refine till_at (i := 10) (d := some 71) (v := ?_) (by kernel_rfl) (by kernel_rfl) (by kernel_rfl) (by kernel_rfl) (by kernel_rfl) (fun _ _ _ h => h) (fun o ho => ?_) hS0 ?_
      rotate_left
      ·simp only [zA, zB, zC, zD] at ho
       subst ho
       refine Or.inl ⟨by rfl, fun w' hSw => ?_⟩
       obtain ⟨hSw0, hSw1, hSw2, hSw3⟩ := hSw
       go_simp
       try with_reducible rfl
      try simp only [Act.put, yA, yB, yC]
      refine till_at (i := 11) (d := some 72) (v := ?_) (by kernel_rfl) (by kernel_rfl) (by kernel_rfl) (by kernel_rfl) (by kernel_rfl) (fun _ _ _ h => h) (fun o ho => ?_) hS0 ?_
      rotate_left
      ·simp only [zA, zB, zC, zD] at ho
       subst ho
       refine Or.inl ⟨by rfl, fun w' hSw => ?_⟩
       obtain ⟨hSw0, hSw1, hSw2, hSw3⟩ := hSw
       go_simp
       try with_reducible rfl
      try simp only [Act.put, yA, yB, yC]
      refine till_at (i := 12) (d := some 73) (v := ?_) (by kernel_rfl) (by kernel_rfl) (by kernel_rfl) (by kernel_rfl) (by kernel_rfl) (fun _ _ _ h => h) (fun o ho => ?_) hS0 ?_
      rotate_left
      ·simp only [zA, zB, zC, zD] at ho
       subst ho
       refine Or.inl ⟨by rfl, fun w' hSw => ?_⟩
       obtain ⟨hSw0, hSw1, hSw2, hSw3⟩ := hSw
       go_simp
       try with_reducible rfl
      try simp only [Act.put, yA, yB, yC]
      refine till_at (i := 13) (d := some 74) (v := ?_) (by kernel_rfl) (by kernel_rfl) (by kernel_rfl) (by kernel_rfl) (by kernel_rfl) (fun _ _ _ h => h) (fun o ho => ?_) hS0 ?_
      rotate_left
      ·simp only [zA, zB, zC, zD] at ho
       subst ho
       refine Or.inl ⟨by rfl, fun w' hSw => ?_⟩
       obtain ⟨hSw0, hSw1, hSw2, hSw3⟩ := hSw
       go_simp
       try with_reducible rfl
      try simp only [Act.put, yA, yB, yC]
      refine till_at (i := 14) (d := some 75) (v := ?_) (by kernel_rfl) (by kernel_rfl) (by kernel_rfl) (by kernel_rfl) (by kernel_rfl) (fun _ _ _ h => h) (fun o ho => ?_) hS0 ?_
      rotate_left
      ·simp only [zA, zB, zC, zD] at ho
       subst ho
       refine Or.inl ⟨by rfl, fun w' hSw => ?_⟩
       obtain ⟨hSw0, hSw1, hSw2, hSw3⟩ := hSw
       go_simp
       try with_reducible rfl
      try simp only [Act.put, yA, yB, yC]
      refine till_step (i := 15) (by kernel_rfl) (by kernel_rfl) (fun o ho K' hK => ?_)
      simp only [zA, zB, zC, zD] at ho
      subst ho
      go_simp
      have hS15 := (show (wr.drew.alloc (.cells #[.int .i64 m0, .int .i64 m1] 52)).cell? ⟨w6.heap.size, 0, none⟩ = some (.slice va j vc) ∧ (wr.drew.alloc (.cells #[.int .i64 m0, .int .i64 m1] 52)).frozen? ⟨w6.heap.size, 0, none⟩ = false ∧ (wr.drew.alloc (.cells #[.int .i64 m0, .int .i64 m1] 52)).cell? ⟨nb, 2 * j + 2, none⟩ = some (.int .i64 m0) ∧ (wr.drew.alloc (.cells #[.int .i64 m0, .int .i64 m1] 52)).cell? ⟨nb, 2 * j + 3, none⟩ = some (.int .i64 m1) from ⟨((Ext.refl wr).drew.alloc _).cell g0, (((Ext.refl wr).drew.alloc _).frozen (lt_of_cell g0)).trans g1, ((Ext.refl wr).drew.alloc _).cell g2, ((Ext.refl wr).drew.alloc _).cell g3⟩)
      refine hK.out _ _ (fun _ => hS15) (fun _ => ?_)
      clear hK K'
      try simp only [Act.put, yA, yB, yC]
      refine till_step (i := 16) (by kernel_rfl) (by kernel_rfl) (fun o ho K' hK => ?_)
      simp only [zA, zB, zC, zD] at ho
      subst ho
      refine step_push_at E_spans (by rfl) _ _ (by rfl) (w6.heap.size + 1) (by rfl) (owns_ext HO.out (Ext.refl wr).drew) (by rfl) (by rfl) (by rfl) (by simp [Value.oneCell']) ?_ HSZ.out.1 HSZ.out.2 (by have := (Array.getElem?_eq_some_iff.1 HBQ.out).1; exact this)
      intro g9 cap9 w9 hown9 hg9 hloc9
      have hx9 : Ext w6 w9 := (HXQ.out.drew.alloc _).grown hg9 (fun b hb => by have := owns_block HO.out b hb; omega)
      have HB9 := Lib.hid (kept_push hg9 (show wr.drew.heap[w6.heap.size]? = some (.cells #[.slice va j vc, .int .i64 n0, .int .i64 n1] 73 (0, 0)) from HBQ.out) (owns_block HO.out) (Nat.lt_succ_self _))
      have HO9 := Lib.hid hown9
      have HX9 := Lib.hid hx9
      clear hown9 hg9 hloc9 hx9
      have hS16 := (show w9.cell? ⟨w6.heap.size, 0, none⟩ = some (.slice va j vc) ∧ w9.frozen? ⟨w6.heap.size, 0, none⟩ = false ∧ w9.cell? ⟨nb, 2 * j + 2, none⟩ = some (.int .i64 m0) ∧ w9.cell? ⟨nb, 2 * j + 3, none⟩ = some (.int .i64 m1) from ⟨(block_cell HB9.out (i := 0) rfl).1, (block_cell HB9.out (i := 0) rfl).2, HNJ.out.1 _ HX9.out, HNJ.out.2 _ HX9.out⟩)
      refine hK.out _ _ (fun _ => hS16) (fun _ => ?_)
      clear hK K'
      try simp only [Act.put, yA, yB, yC]
      refine till_at (i := 17) (d := some 78) (v := ?_) (by kernel_rfl) (by kernel_rfl) (by kernel_rfl) (by kernel_rfl) (by kernel_rfl) (fun _ _ _ h => h) (fun o ho => ?_) hS16 ?_
      rotate_left
      ·simp only [zA, zB, zC, zD] at ho
       subst ho
       refine Or.inl ⟨by rfl, fun w' hSw => ?_⟩
       obtain ⟨hSw0, hSw1, hSw2, hSw3⟩ := hSw
       go_simp
       try with_reducible rfl
      try simp only [Act.put, yA, yB, yC]
      refine till_step (i := 18) (by kernel_rfl) (by kernel_rfl) (fun o ho K' hK => ?_)
      simp only [zA, zB, zC, zD] at ho
      subst ho
      go_simp
      refine hK.out _ _ (fun h => absurd rfl h) (fun _ => ?_)
      clear hK K'
      try simp only [Act.put, yA, yB, yC]
      refine till_done (by kernel_rfl) ?_ _
      refine NoPanic.normal ?_
      try simp only [Act.put, yA, yB, yC]
      go_wp2
      refine ⟨⟨j + 1, .slice (some ⟨g9, 0, none⟩) (j + 1) cap9, by omega, by go_num, setCell_block (i := 0) HB9.out, ?_, HX9.out.setCell (p := ⟨w6.heap.size, 0, none⟩) (Nat.le_refl _) _⟩, by simp [intOf]; omega⟩
      rw [Hid, HTG.out, List.flatMap_append]
      exact owns_touch HO9.out (Touch.setCell (M := (· = w6.heap.size)) (a := ⟨w6.heap.size, 0, none⟩) _ rfl) (fun g hg e => by have := owns_block HO9.out g hg; omega)
     ·have y1 : decide ((j : Int) < (Y : Int)) = false := by simpa using hjl
      have hje : j = Y := by omega
      subst hje
      obtain ⟨va, vc, rfl, _⟩ := RowAt.open (RowAt.of_owns HO.out)
      obtain ⟨ra, rc, rfl, _⟩ := RowAt.open (RowAt.of_owns hown.out)
      have HPS : Hid (PairsAt wr (.slice va j vc) (tellR ns j).grow) := by
       have h := RowAt.of_owns HO.out
       show RowAt wr _ (tellG ns j).length _
       rw [tellG_len]; exact h
      have hxw : Ext wo wr := HX6.out.trans hxq
      have hbr : wr.heap[w3.heap.size]? = some (.cells #[.int .i64 (j : Int), .slice ra k rc] 24 (0, 0)) := (hxw.block (Array.getElem?_eq_some_iff.1 hbx.out).1).trans hbx.out
      have hpl : w3.heap.size < wr.heap.size := (Array.getElem?_eq_some_iff.1 hbr).1
      have p1 := (block_cell hbr (i := 1) rfl).1
      have q0 := (block_cell HBQ.out (i := 0) rfl).1
      have q1 := (block_cell HBQ.out (i := 1) rfl).1
      have q2 := (block_cell HBQ.out (i := 2) rfl).1
      have HBR := Lib.hid hbr
      have HXW := Lib.hid hxw
      have HSZ := Lib.hid (show k + 1 ≤ maxLen ∧ (k + 1) * 40 ≤ 140737488355328 by unfold maxLen; omega)
      clear hxq hxw hbr
      go_wp2_with (at_builtin; refine wpList_push_at E_rivers rfl _ _ rfl (w3.heap.size + 1) rfl (owns_ext hown.out HXW.out) rfl (by simp) rfl (by simp [Value.oneCell']) ?_ HSZ.out.1 HSZ.out.2 hpl; intro g cap w7 hown7 hext7 hg7 hloc7; have HB7 := Lib.hid (kept_push hg7 HBR.out (owns_block hown.out) (Nat.lt_succ_self _)); have p1' := (block_cell HB7.out (i := 1) rfl).1; have p1f := (block_cell HB7.out (i := 1) rfl).2; have HO7 := Lib.hid hown7; have HG7 := Lib.hid (And.intro hg7 hloc7); have HX7 := Lib.hid (hext7 _ (HX.out.trans HXW.out) (Nat.le_succ _)); clear hown7 hext7 hg7 hloc7)
      refine ⟨⟨k + 1, .slice (some ⟨g, 0, none⟩) (k + 1) cap, xs ++ [(.slice va j vc, tellR ns j)], by omega, by go_num, ?_, ?_, ?_, ?_, ?_, HX7.out.setCell (p := ⟨w3.heap.size, 1, none⟩) (Nat.le_refl _) _⟩, by simp [intOf]; omega⟩
      ·rw [Hid, List.map_append, hxs.out, riversOf_succ, HNS.out, HYO.out]; rfl
      ·exact setCell_block (i := 1) HB7.out
      ·have h := HO7.out
       have e : [(Value.slice va j vc, tellR ns j)].flatMap riverC = [.slice va j vc, .int .i64 n0, .int .i64 n1] := by rw [← HN01.out.1, ← HN01.out.2]; rfl
       rw [Hid, List.flatMap_append, e]
       exact owns_touch h (Touch.setCell (M := (· = w3.heap.size)) (a := ⟨w3.heap.size, 1, none⟩) _ rfl) (fun g hg e => by have := owns_block h g hg; omega)
      ·exact rivers_push hown.out HXW.out HX6.out.size (Array.getElem?_eq_some_iff.1 hbx.out).1 HO.out HPS.out hpa.out HG7.out.1 HG7.out.2
      ·intro i hi
       by_cases e : i = k
       ·rw [e]; exact HQ2.out
       ·exact hall.out i (by omega)
  ·have x1 : decide ((k : Int) < (N : Int)) = false := by simpa using hlt
   have hkn : k = N := by omega
   subst hkn
   have HBO : Hid (bookOf s = ⟨(Y : Int), riversOf s k⟩) := by unfold Hid bookOf; rw [HMO.out, HYO.out]
   have HLO : Hid (LinesOk s) := ⟨by rw [HMO.out]; exact HPC.out, HQ0.out, by rw [HMO.out, HYO.out]; exact hall.out⟩
   have HTE := Lib.hid (book_textB HLO.out hs)
   have HSM := Lib.hid (book_small HLO.out hs)
   obtain ⟨ra, rc, rfl, _⟩ := RowAt.open (RowAt.of_owns hown.out)
   have hxl : xs.length = k := by have h := congrArg List.length hxs.out; rwa [List.length_map, riversOf_len] at h
   have HRV : Hid (RiversOff (fun i => i ≤ w3.heap.size) wo (.slice ra k rc) (riversOf s k)) := by
    refine ⟨xs, hxs.out, ?_, fun a n c hv hM => ?_, fun x hx => ⟨(hpa.out x hx).1, (hpa.out x hx).2.less (fun i hi => .inl hi)⟩⟩
    ·show RowAt _ _ xs.length _
     rw [hxl]; exact RowAt.of_owns hown.out
    ·have h9 := owns_block hown.out a.block (by
      obtain ⟨_, ⟨e, _⟩ | ⟨g', cap', cur, e, _⟩⟩ := hown.out
      ·rw [hv] at e; cases e
      ·rw [hv] at e; cases e; rw [hv]; rfl)
     omega
   have hba : BookAt wo (.agg #[.int .i64 (Y : Int), .slice ra k rc]) (bookOf s) := by rw [HBO.out]; exact ⟨_, rfl, HRV.out.at⟩
   have HTC := Lib.hid (HTX.out _ (bookOf s) wo (HYW.out.trans hx) hba HTE.out)
   have p0 := (block_cell hbx.out (i := 0) rfl).1
   have p1 := (block_cell hbx.out (i := 1) rfl).1
   have HZW := Lib.hid ((hx.block (Array.getElem?_eq_some_iff.1 HZ3.out).1).trans HZ3.out)
   have HX := Lib.hid hx
   clear hx hba hxl
   by_cases hq : textT (bookOf s) = s
   ·have HQ := Lib.hid hq
    rw [hq] at HTC
    clear hq
    go_wp2_with (first
     | (go_at_call 62; refine HTC.out.mono ?_; rintro e w8 ⟨rfl, hx8⟩; have p0' := hx8.cell p0; have p1' := hx8.cell p1; have hz8 := (hx8.block (Array.getElem?_eq_some_iff.1 HZW.out).1).trans HZW.out; obtain ⟨z0, f0⟩ := block_cell hz8 (i := 0) rfl; obtain ⟨z1, f1⟩ := block_cell hz8 (i := 1) rfl; have HX8 := Lib.hid hx8; clear p0 p1 hz8 hx8)
     | (go_at_call 116; refine (HSU.out _ _).mono ?_; rintro e w9 ⟨rfl, rfl⟩))
    refine bodyPost_ret (v := .agg #[.int .i64 (Y : Int), .slice ra k rc]) (by simp [results, Tryz.results64, go_sem, *]) rfl ?_
    have hzp : w.heap.size ≤ w3.heap.size := HYW.out.size
    refine .inl ⟨.slice ra k rc, by rw [HBO.out], ⟨HSM.out, HQ.out⟩, ?_, (((HYW.out.trans HX.out).trans HX8.out).setCell (p := ⟨w.heap.size, 0, none⟩) (Nat.le_refl _) _).setCell (p := ⟨w.heap.size, 1, none⟩) (Nat.le_refl _) _⟩
    rw [HBO.out]
    exact ((HRV.out.ext HX8.out).touch ((Touch.setCell (a := ⟨w.heap.size, 0, none⟩) _ hzp).trans (Touch.setCell (a := ⟨w.heap.size, 1, none⟩) _ hzp))).less (fun i hi => by omega)
   ·have HNO : Hid (¬ ∃ b, TextOf s b) := fun ⟨b, hb⟩ => hq (by rw [book_text hb]; exact hb.2)
    have q1 : decide (textT (bookOf s) = s) = false := by simpa using hq
    have q2 : (textT (bookOf s) == s) = false := by simpa using hq
    clear hq
    generalize textT (bookOf s) = tt at *
    go_wp2_with (first
     | (go_at_call 62; refine HTC.out.mono ?_; rintro e w8 ⟨rfl, hx8⟩; have HX8 := Lib.hid hx8; clear hx8)
     | (go_at_call 116; refine (HSN.out _ _).mono ?_; rintro e w9 ⟨why, rfl, hx9⟩))
    exact ⟨rfl, .inr ⟨HNO.out, why, rfl, ((HYW.out.trans HX.out).trans HX8.out).trans hx9⟩⟩
theorem read_any (s : List UInt8) (w : World) (ht : TabOk w) (hm : MaxOk w) (hs : s.length ≤ 300) : Calls Tryz.prog 64 #[strV s] w (ReadPost s w) := by
 cases q0 : toldOk wBook 2 (lineAt s 0) with
 | false => exact read_e0 s w ht hm hs q0
 | true =>
  by_cases qL : (splitL 10 s).length = manyOf s + 3
  ·exact read_main s w ht hm hs q0 qL
  ·exact read_e1 s w ht hm hs q0 qL
end Go.Proofs.YtdmdabhdcpjkiaaGreatDoor
