/- The reference's Many. -/
import Derived.Test.YtiodjapdiflphaaGreatDoorRsetq
import Derived.Test.YtiodjapdiflphaaGreatDoorPlainq
import Derived.Test.YtiodjapdiflphaaGreatDoorRtwoq
namespace Go.Proofs.YtiodjapdiflphaaGreatDoor
open Go.RowKit
set_option maxRecDepth 100000 in
set_option maxHeartbeats 4000000 in
theorem rmany_any (oa wa : Option Addr) (oc wn wc : Nat) (pv : Value) (any : Bool) (l : List Nat) (m N : Nat) (w : World) (hv : MarksAt w pv N l) (hN : N ≤ 16) :
  Calls Tryz.prog 21 #[.agg #[.bool any, .slice oa m oc, .slice wa wn wc, pv]] w fun e w' => e = .returned (.agg #[.int .i64 (manyTill l m N).1, .int .i64 (manyTill l m N).2]) ∧ Ext w w' := by
 obtain ⟨pa, pc, rfl, h1, h2, h3⟩ := hv.open
 obtain ⟨W0, hW0⟩ : ∃ W0, W0 = (w.alloc (.cells #[.bool any, .slice oa m oc, .slice wa wn wc, .slice pa N pc] 39)).alloc (.cells #[.int .i64 0, .int .i64 0] 52) := ⟨_, rfl⟩
 have hx0 : Ext w W0 := by rw [hW0]; exact ((Ext.refl w).alloc _).alloc _
 have hz0 : W0.heap.size = w.heap.size + 2 := by rw [hW0]; simp
 have hb : Box2 W0 (w.heap.size + 1) (.int .i64 0) (.int .i64 0) := by
  rw [hW0]
  have h := Box2.new (w.alloc (.cells #[.bool any, .slice oa m oc, .slice wa wn wc, .slice pa N pc] 39)) (.int .i64 0) (.int .i64 0) 52
  rwa [World.size_alloc] at h
 have HP := Lib.hid (fun W (h : Ext W0 W) => h.cell (a := ⟨w.heap.size, 3, none⟩) (v := .slice pa N pc) (by rw [hW0]; go_simp))
 have H3 := Lib.hid (fun k (hk : k < N) => h3 k hk)
 have HX0 := Lib.hid hx0
 have hmix : Tryz.prog.follows .mixedOrders = true := by kernel_rfl
 clear hv h3
 go_enter Tryz.func21, Tryz.ntmps21
 go_upto_region 2 with fail
 have hbA : Box2 (W0.alloc (.cells #[.int .i64 (m : Int), .int .i64 0] 52)) (w.heap.size + 2) (.int .i64 (m : Int)) (.int .i64 0) := by
  have h := Box2.new W0 (.int .i64 (m : Int)) (.int .i64 0) 52
  rwa [hz0] at h
 have hxA : Ext W0 (W0.alloc (.cells #[.int .i64 (m : Int), .int .i64 0] 52)) := (Ext.refl W0).alloc _
 rw [← hW0]
 clear hW0 hx0
 have HZ0 := Lib.hid hz0
 clear hz0
 generalize W0.alloc (.cells #[.int .i64 (m : Int), .int .i64 0] 52) = WA at *
 go_wp2
 go_loopw [4] (fun i wr => ∃ (k : Nat) (p : Int × Int), k ≤ N ∧ i = .int .i64 (k : Int) ∧ Ext W0 wr ∧ Box2 wr (w.heap.size + 2) (.int .i64 p.1) (.int .i64 p.2) ∧ Hid (manyTill l m k = p)) (fun i _ => N - (intOf i).toNat)
 case atStart => exact ⟨0, ((m : Int), 0), Nat.zero_le _, rfl, hxA, hbA, rfl⟩
 case round =>
  clear hbA hxA
  obtain ⟨k, ⟨m1, m2⟩, hk, rfl, hxr, hbr, hm⟩ := hrel
  have c3 := HP.out _ hxr
  by_cases hlt : k < N
  ·obtain ⟨pb, po, rfl, hc⟩ := H3.out k hlt
   have t1 : decide ((k : Int) < (N : Int)) = true := by simpa using hlt
   have i1 : (0 : Int) ≤ (k : Int) := by omega
   have i2 : (k : Int) < (N : Int) := by omega
   have q0 := (HX0.out.trans hxr).cell hc
   have HCN := Lib.hid (fun w1 => rcount_any k w1 (by omega))
   have hsu := manyTill_succ l m k
   rw [hm.out] at hsu
   have HXR := Lib.hid hxr
   have HBR := Lib.hid hbr
   obtain ⟨g0, g1, g2, g3⟩ := hbr
   cases hmk : decide (k ∈ l) with
   | false =>
    rw [hmk] at q0
    rw [if_neg (by simpa using hmk)] at hsu
    have HSU := Lib.hid hsu
    clear hsu hmk hc hxr hm
    go_wp2
    exact ⟨⟨k + 1, (m1, m2), by omega, by go_num, HXR.out, HBR.out, HSU.out⟩, by simp [intOf]; omega⟩
   | true =>
    rw [hmk] at q0
    rw [if_pos (by simpa using hmk)] at hsu
    obtain ⟨mp, hmp⟩ : ∃ mp, manyB k = mp := ⟨_, rfl⟩
    rw [hmp] at hsu HCN
    have HSU := Lib.hid hsu
    clear hsu hmk hmp hc hxr hm
    go_upto_region 6 with fail
    refine wp_region_noPanic ?_
    refine wp_region_any (by kernel_rfl) (wpAny_of_till (z := 11) (S := (fun w' => w'.cell? ⟨w.heap.size + 2, 0, none⟩ = some (.int .i64 m1) ∧ w'.cell? ⟨w.heap.size + 2, 1, none⟩ = some (.int .i64 m2) ∧ w'.frozen? ⟨w.heap.size + 2, 0, none⟩ = false ∧ w'.frozen? ⟨w.heap.size + 2, 1, none⟩ = false)) _ _ _ _ ?_)
    change wpTill _ _ _ _ _ _ _ _ _ wr.drew
    have hS0 := (show (World.drew wr).cell? ⟨w.heap.size + 2, 0, none⟩ = some (.int .i64 m1) ∧ (World.drew wr).cell? ⟨w.heap.size + 2, 1, none⟩ = some (.int .i64 m2) ∧ (World.drew wr).frozen? ⟨w.heap.size + 2, 0, none⟩ = false ∧ (World.drew wr).frozen? ⟨w.heap.size + 2, 1, none⟩ = false from ⟨g0, g1, g2, g3⟩)
    refine till_at (i := 0) (d := some 21) (v := ?_) (by kernel_rfl) (by kernel_rfl) (by kernel_rfl) (by kernel_rfl) (by kernel_rfl) (fun _ _ _ h => h) (fun o ho => ?_) hS0 ?_
    rotate_left
    ·simp only [zA, zB, zD] at ho
     subst ho
     refine Or.inl ⟨by rfl, fun w' hSw => ?_⟩
     obtain ⟨hSw0, hSw1, hSw2, hSw3⟩ := hSw
     go_simp
     try with_reducible rfl
    try simp only [Act.put, yA, yB, yC]
    refine till_at (i := 1) (d := some 22) (v := ?_) (by kernel_rfl) (by kernel_rfl) (by kernel_rfl) (by kernel_rfl) (by kernel_rfl) (fun _ _ _ h => h) (fun o ho => ?_) hS0 ?_
    rotate_left
    ·simp only [zA, zB, zC, zD] at ho
     subst ho
     refine Or.inl ⟨by rfl, fun w' hSw => ?_⟩
     obtain ⟨hSw0, hSw1, hSw2, hSw3⟩ := hSw
     go_simp
     try with_reducible rfl
    try simp only [Act.put, yA, yB, yC]
    refine till_at (i := 2) (d := some 23) (v := ?_) (by kernel_rfl) (by kernel_rfl) (by kernel_rfl) (by kernel_rfl) (by kernel_rfl) (fun _ _ _ h => h) (fun o ho => ?_) hS0 ?_
    rotate_left
    ·simp only [zA, zB, zC, zD] at ho
     subst ho
     refine Or.inl ⟨by rfl, fun w' hSw => ?_⟩
     obtain ⟨hSw0, hSw1, hSw2, hSw3⟩ := hSw
     go_simp
     try with_reducible rfl
    try simp only [Act.put, yA, yB, yC]
    refine till_at (i := 5) (d := some 26) (v := ?_) (by kernel_rfl) (by kernel_rfl) (by kernel_rfl) (by kernel_rfl) (by kernel_rfl) (fun _ _ _ h => h) (fun o ho => ?_) hS0 ?_
    rotate_left
    ·simp only [zA, zB, zC, zD] at ho
     subst ho
     refine Or.inl ⟨by rfl, fun w' hSw => ?_⟩
     obtain ⟨hSw0, hSw1, hSw2, hSw3⟩ := hSw
     go_simp
     try with_reducible rfl
    try simp only [Act.put, yA, yB, yC]
    refine till_at (i := 6) (d := some 27) (v := ?_) (by kernel_rfl) (by kernel_rfl) (by kernel_rfl) (by kernel_rfl) (by kernel_rfl) (fun _ _ _ h => h) (fun o ho => ?_) hS0 ?_
    rotate_left
    ·simp only [zA, zB, zC, zD] at ho
     subst ho
     refine Or.inl ⟨by rfl, fun w' hSw => ?_⟩
     obtain ⟨hSw0, hSw1, hSw2, hSw3⟩ := hSw
     go_simp
     try with_reducible rfl
    try simp only [Act.put, yA, yB, yC]
    refine till_at (i := 7) (d := some 28) (v := ?_) (by kernel_rfl) (by kernel_rfl) (by kernel_rfl) (by kernel_rfl) (by kernel_rfl) (fun _ _ _ h => h) (fun o ho => ?_) hS0 ?_
    rotate_left
    ·simp only [zA, zB, zC, zD] at ho
     subst ho
     refine Or.inl ⟨by rfl, fun w' hSw => ?_⟩
     obtain ⟨hSw0, hSw1, hSw2, hSw3⟩ := hSw
     go_simp
     try with_reducible rfl
    try simp only [Act.put, yA, yB, yC]
    refine till_step (i := 3) (by kernel_rfl) (by kernel_rfl) (fun o ho K' hK => ?_)
    simp only [zA, zB, zC, zD] at ho
    subst ho
    go_simp
    go_at_call 54
    refine (HCN.out _).mono ?_
    rintro e w3 ⟨rfl, hx3⟩
    have hS3 := And.intro (hx3.cell hS0.1) (And.intro (hx3.cell hS0.2.1) (And.intro ((hx3.frozen (lt_of_cell hS0.1)).trans hS0.2.2.1) ((hx3.frozen (lt_of_cell hS0.2.1)).trans hS0.2.2.2)))
    refine hK.out _ _ (fun _ => hS3) (fun _ => ?_)
    clear hK K'
    try simp only [Act.put, yA, yB, yC]
    refine till_at (i := 4) (d := some 25) (v := ?_) (by kernel_rfl) (by kernel_rfl) (by kernel_rfl) (by kernel_rfl) (by kernel_rfl) (fun _ _ _ h => h) (fun o ho => ?_) hS3 ?_
    rotate_left
    ·simp only [zA, zB, zC, zD] at ho
     subst ho
     refine Or.inl ⟨by rfl, fun w' hSw => ?_⟩
     obtain ⟨hSw0, hSw1, hSw2, hSw3⟩ := hSw
     go_simp
     try with_reducible rfl
    try simp only [Act.put, yA, yB, yC]
    refine till_step (i := 8) (by kernel_rfl) (by kernel_rfl) (fun o ho K' hK => ?_)
    simp only [zA, zB, zC, zD] at ho
    subst ho
    go_simp
    go_at_call 54
    refine (HCN.out _).mono ?_
    rintro e w8 ⟨rfl, hx8⟩
    have hS8 := And.intro (hx8.cell hS3.1) (And.intro (hx8.cell hS3.2.1) (And.intro ((hx8.frozen (lt_of_cell hS3.1)).trans hS3.2.2.1) ((hx8.frozen (lt_of_cell hS3.2.1)).trans hS3.2.2.2)))
    refine hK.out _ _ (fun _ => hS8) (fun _ => ?_)
    clear hK K'
    try simp only [Act.put, yA, yB, yC]
    refine till_at (i := 9) (d := some 30) (v := ?_) (by kernel_rfl) (by kernel_rfl) (by kernel_rfl) (by kernel_rfl) (by kernel_rfl) (fun _ _ _ h => h) (fun o ho => ?_) hS8 ?_
    rotate_left
    ·simp only [zA, zB, zC, zD] at ho
     subst ho
     refine Or.inl ⟨by rfl, fun w' hSw => ?_⟩
     obtain ⟨hSw0, hSw1, hSw2, hSw3⟩ := hSw
     go_simp
     try with_reducible rfl
    try simp only [Act.put, yA, yB, yC]
    refine till_at (i := 10) (d := some 31) (v := ?_) (by kernel_rfl) (by kernel_rfl) (by kernel_rfl) (by kernel_rfl) (by kernel_rfl) (fun _ _ _ h => h) (fun o ho => ?_) hS8 ?_
    rotate_left
    ·simp only [zA, zB, zC, zD] at ho
     subst ho
     refine Or.inl ⟨by rfl, fun w' hSw => ?_⟩
     obtain ⟨hSw0, hSw1, hSw2, hSw3⟩ := hSw
     go_simp
     try with_reducible rfl
    try simp only [Act.put, yA, yB, yC]
    refine till_step (i := 11) (by kernel_rfl) (by kernel_rfl) (fun o ho K' hK => ?_)
    simp only [zA, zB, zC, zD] at ho
    subst ho
    obtain ⟨g0, g1, g2, g3⟩ := hS8
    go_simp
    refine hK.out _ _ (fun h => absurd rfl h) (fun _ => ?_)
    clear hK K'
    try simp only [Act.put, yA, yB, yC]
    refine till_done (by kernel_rfl) ?_ _
    refine NoPanic.normal ?_
    try simp only [Act.put, yA, yB, yC]
    go_wp2
    refine ⟨⟨k + 1, (min m1 mp, max m2 mp), by omega, by go_num, ?_, ?_, HSU.out⟩, by simp [intOf]; omega⟩
    ·exact ((((HXR.out.drew.trans hx3).trans hx8).setCell (p := ⟨w.heap.size + 2, 0, none⟩) (by simp only []; have := HZ0.out; omega) _).setCell (p := ⟨w.heap.size + 2, 1, none⟩) (by simp only []; have := HZ0.out; omega) _)
    ·exact (((HBR.out.ext (Ext.refl _).drew).ext hx3).ext hx8).set _ _
  ·have t1 : decide ((k : Int) < (N : Int)) = false := by simpa using hlt
   have hkN : k = N := by omega
   subst hkN
   have HM := Lib.hid hm.out
   obtain ⟨g0, g1, g2, g3⟩ := hbr
   obtain ⟨v0, v1, v2, v3⟩ := hb.ext hxr
   have HXR := Lib.hid hxr
   clear hm hxr hb
   go_wp2
   refine bodyPost_ret (v := .agg #[.int .i64 m1, .int .i64 m2]) (by simp [results, Tryz.results21, go_sem, *]) rfl ⟨by rw [HM.out], ?_⟩
   repeat (first | exact HX0.out.trans HXR.out | apply Ext.alloc | refine Ext.setCell ?_ (by simp only []; omega) _)
end Go.Proofs.YtiodjapdiflphaaGreatDoor

/- The reference's Of. -/
namespace Go.Proofs.YtiodjapdiflphaaGreatDoor
open Go.RowKit
theorem ofTo_len (b : Book) (l : List Bool) (k : Nat) : (ofTo b l k).length ≤ k := by
 unfold ofTo
 rw [List.length_map]
 exact Nat.le_trans (List.length_filter_le _ _) (by simp)
set_option maxRecDepth 100000 in
set_option maxHeartbeats 4000000 in
theorem rof_any (ob oo oc m pn pc wn wc i : Nat) (pa wa : Option Addr) (bv gv : Value) (any : Bool) (b : Book) (row : List Bool) (w : World) (hb : BookAt w bv b) (hB : BookB b) (hi : i < m) (hc : w.cell? ⟨ob, oo + i, none⟩ = some gv) (hr : RowAt w gv row.length (row.map .bool)) (hl : row.length ≤ 1000) :
  Calls Tryz.prog 19 #[.agg #[.bool any, .slice (some ⟨ob, oo, none⟩) m oc, .slice wa wn wc, .slice pa pn pc], bv, .int .i64 (i : Int)] w fun e w' => ∃ u, e = .returned u ∧ PairsAt w' u (ofTo b row row.length) ∧ Ext w w' := by
 obtain ⟨ra, rc, rfl, _⟩ := hb.slice
 have y1 := hB.y1
 have y2 := hB.y2
 obtain ⟨y, hyy⟩ : ∃ y : Nat, b.years = y := ⟨b.years.toNat, by omega⟩
 obtain ⟨ga, gc, rfl, g1, g2, g3⟩ := RowAt.open hr
 obtain ⟨W0, hW0⟩ : ∃ W0, W0 = (w.alloc (.cells #[.bool any, .slice (some ⟨ob, oo, none⟩) m oc, .slice wa wn wc, .slice pa pn pc] 39)).alloc (.cells #[.int .i64 (y : Int), .slice ra b.rivers.length rc] 24) := ⟨_, rfl⟩
 have HX0 := Lib.hid (show Ext w W0 by rw [hW0]; exact ((Ext.refl w).alloc _).alloc _)
 have HZ0 := Lib.hid (show W0.heap.size = w.heap.size + 2 by rw [hW0]; simp)
 have HS := Lib.hid (fun W (h : Ext W0 W) => (⟨h.cell (by rw [hW0]; go_simp), h.cell (by rw [hW0]; go_simp), (HX0.out.trans h).cell hc⟩ :
  W.cell? ⟨w.heap.size, 1, none⟩ = some (.slice (some ⟨ob, oo, none⟩) m oc) ∧ W.cell? ⟨w.heap.size + 1, 0, none⟩ = some (.int .i64 (y : Int)) ∧ W.cell? ⟨ob, oo + i, none⟩ = some (.slice ga row.length gc)))
 have H3 := Lib.hid (fun (k : Nat) (hk : k < row.length) => g3 k (.bool (row.getD k false)) (by rw [List.getElem?_map, List.getElem?_eq_getElem hk, List.getD_eq_getElem?_getD, List.getElem?_eq_getElem hk]; rfl))
 have HYY := Lib.hid (show b.years.toNat = y by omega)
 have i1 : (0 : Int) ≤ (i : Int) := by omega
 have i2 : (i : Int) < (m : Int) := by omega
 rw [hyy] at hb y1 y2 ⊢
 have hy0 : ¬ (y : Int) = 0 := by omega
 have hy0n : ¬ y = 0 := by omega
 clear hb hB hr g3 hyy hc
 go_enter Tryz.func19, Tryz.ntmps19
 go_upto_region 1 with fail
 rw [← hW0]
 clear hW0
 go_wp2
 go_loopw [7, 8] (fun o j wr => ∃ k : Nat, k ≤ row.length ∧ j = .int .i64 (k : Int) ∧ wr.ownsRow (w.heap.size + 2) 84 2 o (ofTo b row k).length ((ofTo b row k).flatMap pairC) ∧ Ext W0 wr) (fun _ j _ => row.length - (intOf j).toNat)
 case atStart => exact ⟨0, Nat.zero_le _, rfl, World.ownsRow_nil _ _ _ _, Ext.refl _⟩
 case round =>
  obtain ⟨k, hk, rfl, hown, hx⟩ := hrel
  obtain ⟨z0, z1, z2⟩ := HS.out _ hx
  by_cases hlt : k < row.length
  ·have x1 : decide ((k : Int) < (row.length : Int)) = true := by simpa using hlt
   have k1 : (0 : Int) ≤ (k : Int) := by omega
   have k2 : (k : Int) < (row.length : Int) := by omega
   obtain ⟨gb, go, rfl, hcr⟩ := H3.out k hlt
   have hcx := (HX0.out.trans hx).cell hcr
   have hsu := ofTo_succ b row k
   rw [HYY.out] at hsu
   have hbz : w.heap.size + 2 ≤ wr.heap.size := by have := hx.size; have := HZ0.out; omega
   cases hb : row.getD k false with
   | false =>
    rw [hb] at hcx hsu
    rw [if_neg (by simp)] at hsu
    have HSU := Lib.hid hsu
    have HOWN := Lib.hid hown
    have HX := Lib.hid hx
    clear hsu hb hcr hown hx
    go_wp2
    refine ⟨⟨k + 1, by omega, by go_num, ?_, HX.out⟩, by simp [intOf]; omega⟩
    rw [HSU.out]; exact HOWN.out
   | true =>
    rw [hb] at hcx hsu
    rw [if_pos rfl] at hsu
    have HSU := Lib.hid hsu
    have hle := ofTo_len b row k
    have HSZ := Lib.hid (show (ofTo b row k).length + 1 ≤ maxLen ∧ ((ofTo b row k).length + 1) * 16 ≤ 140737488355328 by unfold maxLen; omega)
    obtain ⟨_, _, rfl, _⟩ := RowAt.open (RowAt.of_owns hown)
    have HOWN := Lib.hid hown
    have HX := Lib.hid hx
    have HZ := Lib.hid (Nat.le_of_eq HZ0.out)
    clear hsu hb hcr hown hx hle
    go_upto_region 6 with fail
    clear z0 z1 z2
    refine wp_region_held_drew (S := (fun W => W.cell? ⟨w.heap.size + 1, 0, none⟩ = some (.int .i64 (y : Int)))) (by kernel_rfl) ?_ (fun hHeld => ?_)
    ·exact (HS.out _ (HX.out.trans (Ext.refl wr).drew)).2.1
    refine hTk (i := 0) (d := some 27) (v := ?_) (fun o ho => ?_) hHeld ?_
    rotate_left
    ·simp only [zA, zB, zD] at ho
     subst ho
     refine ⟨by rfl, fun w hSw => ?_⟩
     (try dsimp only at hSw)
     go_simp
     try with_reducible rfl
    try simp only [Act.put, yA, yB, yC]
    refine hTk (i := 1) (d := some 28) (v := ?_) (fun o ho => ?_) hHeld ?_
    rotate_left
    ·simp only [zA, zB, zC, zD] at ho
     subst ho
     refine ⟨by rfl, fun w hSw => ?_⟩
     (try dsimp only at hSw)
     go_simp
     try with_reducible rfl
    try simp only [Act.put, yA, yB, yC]
    refine hTk (i := 2) (d := some 29) (v := ?_) (fun o ho => ?_) hHeld ?_
    rotate_left
    ·simp only [zA, zB, zC, zD] at ho
     subst ho
     refine ⟨by rfl, fun w hSw => ?_⟩
     (try dsimp only at hSw)
     go_simp
     try with_reducible rfl
    try simp only [Act.put, yA, yB, yC]
    refine hTk (i := 3) (d := some 30) (v := ?_) (fun o ho => ?_) hHeld ?_
    rotate_left
    ·simp only [zA, zB, zC, zD] at ho
     subst ho
     refine ⟨by rfl, fun w hSw => ?_⟩
     (try dsimp only at hSw)
     go_simp
     try with_reducible rfl
    try simp only [Act.put, yA, yB, yC]
    refine hTk (i := 4) (d := some 31) (v := ?_) (fun o ho => ?_) hHeld ?_
    rotate_left
    ·simp only [zA, zB, zC, zD] at ho
     subst ho
     refine ⟨by rfl, fun w hSw => ?_⟩
     (try dsimp only at hSw)
     go_simp
     try with_reducible rfl
    try simp only [Act.put, yA, yB, yC]
    refine hTk (i := 5) (d := some 32) (v := ?_) (fun o ho => ?_) hHeld ?_
    rotate_left
    ·simp only [zA, zB, zC, zD] at ho
     subst ho
     refine ⟨by rfl, fun w hSw => ?_⟩
     (try dsimp only at hSw)
     go_simp
     try with_reducible rfl
    try simp only [Act.put, yA, yB, yC]
    refine hTk (i := 6) (d := some 33) (v := ?_) (fun o ho => ?_) hHeld ?_
    rotate_left
    ·simp only [zA, zB, zC, zD] at ho
     subst ho
     refine ⟨by rfl, fun w hSw => ?_⟩
     (try dsimp only at hSw)
     go_simp
     try with_reducible rfl
    try simp only [Act.put, yA, yB, yC]
    refine hTk (i := 7) (d := some 34) (v := ?_) (fun o ho => ?_) hHeld ?_
    rotate_left
    ·simp only [zA, zB, zC, zD] at ho
     subst ho
     refine ⟨by rfl, fun w hSw => ?_⟩
     (try dsimp only at hSw)
     go_simp
     try with_reducible rfl
    try simp only [Act.put, yA, yB, yC]
    refine hTk (i := 8) (d := some 35) (v := ?_) (fun o ho => ?_) hHeld ?_
    rotate_left
    ·simp only [zA, zB, zC, zD] at ho
     subst ho
     refine ⟨by rfl, fun w hSw => ?_⟩
     (try dsimp only at hSw)
     go_simp
     try with_reducible rfl
    try simp only [Act.put, yA, yB, yC]
    refine hTk (i := 9) (d := some 36) (v := ?_) (fun o ho => ?_) hHeld ?_
    rotate_left
    ·simp only [zA, zB, zC, zD] at ho
     subst ho
     refine ⟨by rfl, fun w hSw => ?_⟩
     (try dsimp only at hSw)
     go_simp
     try with_reducible rfl
    try simp only [Act.put, yA, yB, yC]
    refine wpAnyH_ready (rs := [10]) (by kernel_rfl) (by simp) ?_
    refine held_step (i := 10) (by kernel_rfl) (fun o ho K' hK => ?_) ?_
    ·simp only [zA, zB, zC, zD] at ho
     subst ho
     go_simp
     refine hK.out _ _ ?_ (fun hHeld => ?_)
     ·exact (HS.out _ (HX.out.trans (by repeat (first | exact Ext.refl _ | apply Ext.drew | apply Ext.alloc)))).2.1
     clear hK K'
     try simp only [yA, yB, yC]
     refine wpAnyH_ready (rs := [11]) (by kernel_rfl) (by simp) ?_
     refine held_step (i := 11) (by kernel_rfl) (fun o ho K' hK => ?_) ?_
     ·simp only [zA, zB, zC, zD] at ho
      subst ho
      refine step_push_at E_pairs (by rfl) _ _ (by rfl) (w.heap.size + 2) (by rfl) (owns_ext HOWN.out (Ext.refl wr).drew) (by rfl) (by rfl) (by rfl) (by simp [Value.oneCell']) ?_ HSZ.out.1 HSZ.out.2 (by simpa using hbz)
      intro g5 cap5 w5 hown5 hg5 hloc5
      have hx05 : Ext W0 w5 := (HX.out.drew.alloc _).grown hg5 (fun b hb => by have := owns_block HOWN.out b hb; have := HZ.out; omega)
      have HW := Lib.hid (And.intro hown5 hx05)
      clear hown5 hg5 hloc5 hx05
      refine hK.out _ _ ?_ (fun hHeld => ?_)
      ·exact (HS.out _ HW.out.2).2.1
      clear hK K'
      refine wpAnyH_ready (rs := [12]) (by kernel_rfl) (by simp) ?_
      refine held_step (i := 12) (by kernel_rfl) (fun o ho K' hK => ?_) ?_
      ·simp only [zA, zB, zC, zD] at ho
       subst ho
       go_simp
       refine hK.out _ _ ?_ (fun hHeld => ?_)
       ·exact (HS.out _ HW.out.2).2.1
       clear hK K'
       try simp only [yA, yB, yC]
       refine wpAnyH_done (by kernel_rfl) ?_ _
       try simp only [yA, yB, yC]
       clear hHeld
       go_wp2
       refine ⟨⟨k + 1, by omega, by go_num, ?_, HW.out.2⟩, by simp [intOf]; omega⟩
       rw [HSU.out, List.length_append, List.flatMap_append]
       have hq1 : IntKind.i64.wrap ((k : Int) / (y : Int)) = ((k / y : Nat) : Int) := by have hd := Nat.div_le_self k y; rw [← Int.natCast_ediv]; generalize k / y = dd at *; exact IntWalk.i64_in _ (by omega)
       have hq2 : (k : Int).tmod (y : Int) = ((k % y : Nat) : Int) := by rw [Int.tmod_eq_emod_of_nonneg (by omega), ← Int.natCast_emod]
       have h := HW.out.1
       rw [hq1, hq2] at h
       exact h
      exact AllReadyH.nil
     exact AllReadyH.nil
    exact AllReadyH.nil
  ·have x1 : decide ((k : Int) < (row.length : Int)) = false := by simp; omega
   have hkl : k = row.length := by omega
   subst hkl
   have HR := Lib.hid (RowAt.of_owns hown)
   clear hown
   go_wp2
   go_ret
   exact ⟨_, rfl, HR.out, HX0.out.trans hx⟩
end Go.Proofs.YtiodjapdiflphaaGreatDoor
