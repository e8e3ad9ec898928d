/- Walks: tested, begin. -/
import Derived.Test.YtiodjapdiflphaaGreatDoorState
namespace Go.Proofs.YtiodjapdiflphaaGreatDoor
open Go.RowKit
set_option maxRecDepth 100000 in
set_option maxHeartbeats 4000000 in
theorem tested1_no (b : Book) (rv sv tv : Value) (r y i : Nat) (t : Int × Bool) (ib sb ob : Nat) (w : World) (hB : BookB b) (hr : RiversAt w rv b.rivers) (hs : IsSlice sv) (ht : IsSlice tv) (h1 : r < b.rivers.length) (h2 : (y : Int) < b.years)
  (e1 : w.cell? ⟨ib, 0, none⟩ = some (.int .i64 i)) (s0 : w.cell? ⟨sb, 0, none⟩ = some (.int .i64 b.years)) (s1 : w.cell? ⟨sb, 1, none⟩ = some rv) (s2 : w.cell? ⟨sb, 2, none⟩ = some sv) (s3 : w.cell? ⟨sb, 3, none⟩ = some tv)
  (o0 : w.cell? ⟨ob, 0, none⟩ = some (.int .i64 r)) (o1 : w.cell? ⟨ob, 1, none⟩ = some (.int .i64 y)) (hi : ¬ t.1 = (i : Int)) :
  Calls Tryz.prog 122 #[.agg #[.int .i64 t.1, .bool t.2], .pointer (some ⟨ib, 0, none⟩), .pointer (some ⟨sb, 0, none⟩), .pointer (some ⟨ob, 0, none⟩)] w fun e w' =>
   e = .returned (.bool false) ∧ Ext w w' := by
 have HC := Lib.hid (fun w1 (hx : Ext w w1) => closed_any b rv sv tv r y w1 hB (hr.ext hx) hs ht h1 h2)
 have hx0 : Ext w (w.alloc (.cells #[.int .i64 t.1, .bool t.2] 104)) := (Ext.refl w).alloc _
 have HX0 := Lib.hid hx0
 have HS := Lib.hid (fun W (h : Ext (w.alloc (.cells #[.int .i64 t.1, .bool t.2] 104)) W) => (⟨h.cell (by go_simp), h.cell (by go_simp), (hx0.trans h).cell e1, (hx0.trans h).cell s0, (hx0.trans h).cell s1, (hx0.trans h).cell s2, (hx0.trans h).cell s3, (hx0.trans h).cell o0, (hx0.trans h).cell o1⟩ : (fun w' => w'.cell? ⟨w.heap.size, 0, none⟩ = some (.int .i64 t.1) ∧ w'.cell? ⟨w.heap.size, 1, none⟩ = some (.bool t.2) ∧ w'.cell? ⟨ib, 0, none⟩ = some (.int .i64 i) ∧ w'.cell? ⟨sb, 0, none⟩ = some (.int .i64 b.years) ∧ w'.cell? ⟨sb, 1, none⟩ = some (rv) ∧ w'.cell? ⟨sb, 2, none⟩ = some (sv) ∧ w'.cell? ⟨sb, 3, none⟩ = some (tv) ∧ w'.cell? ⟨ob, 0, none⟩ = some (.int .i64 r) ∧ w'.cell? ⟨ob, 1, none⟩ = some (.int .i64 y)) W))
 obtain ⟨ra, rc, rfl, _⟩ := hr.open
 obtain ⟨sa, sn, sc, rfl⟩ := hs
 obtain ⟨ta, tn, tc, rfl⟩ := ht
 have hmix : Tryz.prog.follows .mixedOrders = true := by kernel_rfl
 have t1 : (t.1 == (i : Int)) = false := by simpa using hi
 clear hr hB e1 s0 s1 s2 s3 o0 o1 hx0
 unfold sackV at HC
 go_enter Tryz.func122, Tryz.ntmps122
 go_upto_region 1 with fail
 refine wp_region_held_drew (S := (fun w' => w'.cell? ⟨w.heap.size, 0, none⟩ = some (.int .i64 t.1) ∧ w'.cell? ⟨w.heap.size, 1, none⟩ = some (.bool t.2) ∧ w'.cell? ⟨ib, 0, none⟩ = some (.int .i64 i) ∧ w'.cell? ⟨sb, 0, none⟩ = some (.int .i64 b.years) ∧ w'.cell? ⟨sb, 1, none⟩ = some (.slice ra b.rivers.length rc) ∧ w'.cell? ⟨sb, 2, none⟩ = some (.slice sa sn sc) ∧ w'.cell? ⟨sb, 3, none⟩ = some (.slice ta tn tc) ∧ w'.cell? ⟨ob, 0, none⟩ = some (.int .i64 r) ∧ w'.cell? ⟨ob, 1, none⟩ = some (.int .i64 y))) (by kernel_rfl) ?_ (fun hHeld => ?_)
 ·exact HS.out _ (by repeat (first | exact hxv | exact Ext.refl _ | apply Ext.drew | apply Ext.alloc))
 refine hTk (i := 0) (d := some 6) (v := ?_) (fun o ho => ?_) hHeld ?_
 rotate_left
 ·simp only [zA, zB, zD] at ho
  subst ho
  refine ⟨by rfl, fun w hSw => ?_⟩
  (try dsimp only at hSw)
  go_simp
  try with_reducible rfl
 try simp only [Act.put, yA, yB, yC]
 refine hTk (i := 1) (d := some 7) (v := ?_) (fun o ho => ?_) hHeld ?_
 rotate_left
 ·simp only [zA, zB, zC, zD] at ho
  subst ho
  refine ⟨by rfl, fun w hSw => ?_⟩
  (try dsimp only at hSw)
  go_simp
  try with_reducible rfl
 try simp only [Act.put, yA, yB, yC]
 refine hTk (i := 2) (d := some 8) (v := ?_) (fun o ho => ?_) hHeld ?_
 rotate_left
 ·simp only [zA, zB, zC, zD] at ho
  subst ho
  refine ⟨by rfl, fun w hSw => ?_⟩
  (try dsimp only at hSw)
  go_simp
  try with_reducible rfl
 try simp only [Act.put, yA, yB, yC]
 refine hTk (i := 3) (d := some 9) (v := ?_) (fun o ho => ?_) hHeld ?_
 rotate_left
 ·simp only [zA, zB, zC, zD] at ho
  subst ho
  refine ⟨by rfl, fun w hSw => ?_⟩
  (try dsimp only at hSw)
  go_simp
  try with_reducible rfl
 try simp only [Act.put, yA, yB, yC]
 refine hTk (i := 4) (d := some 10) (v := ?_) (fun o ho => ?_) hHeld ?_
 rotate_left
 ·simp only [zA, zB, zC, zD] at ho
  subst ho
  refine ⟨by rfl, fun w hSw => ?_⟩
  (try dsimp only at hSw)
  go_simp
  try with_reducible rfl
 try simp only [Act.put, yA, yB, yC]
 refine held_skips (is := [5, 6, 7, 8, 9, 10]) (k := 6) (l' := #[true, true, true, true, true, true, true, true, true, true, true, false, false]) (by kernel_rfl) rfl (by assumption) ?_
 refine hTk (i := 11) (d := some 17) (v := ?_) (fun o ho => ?_) hHeld ?_
 rotate_left
 ·simp only [zA, zB, zC, zD] at ho
  subst ho
  refine ⟨by rfl, fun w hSw => ?_⟩
  (try dsimp only at hSw)
  go_simp
  try with_reducible rfl
 try simp only [Act.put, yA, yB, yC]
 refine wpAnyH_ready (rs := [12]) (by kernel_rfl) (by simp) ?_
 refine held_step (i := 12) (by kernel_rfl) (fun o ho K' hK => ?_) ?_
 ·simp only [zA, zB, zC, zD] at ho
  subst ho
  go_simp
  refine hK.out _ _ ?_ (fun hHeld => ?_)
  ·exact HS.out _ (by repeat (first | exact hxv | exact Ext.refl _ | apply Ext.drew | apply Ext.alloc))
  clear hK K'
  try simp only [yA, yB, yC]
  refine wpAnyH_done (by kernel_rfl) ?_ _
  try simp only [yA, yB, yC]
  go_wp2
  go_ret
  exact ⟨rfl, HX0.out.drew⟩
 exact AllReadyH.nil
set_option maxRecDepth 100000 in
set_option maxHeartbeats 4000000 in
theorem tested1_yes (b : Book) (rv sv tv : Value) (r y i : Nat) (t : Int × Bool) (ib sb ob : Nat) (w : World) (hB : BookB b) (hr : RiversAt w rv b.rivers) (hs : IsSlice sv) (ht : IsSlice tv) (h1 : r < b.rivers.length) (h2 : (y : Int) < b.years)
  (e1 : w.cell? ⟨ib, 0, none⟩ = some (.int .i64 i)) (s0 : w.cell? ⟨sb, 0, none⟩ = some (.int .i64 b.years)) (s1 : w.cell? ⟨sb, 1, none⟩ = some rv) (s2 : w.cell? ⟨sb, 2, none⟩ = some sv) (s3 : w.cell? ⟨sb, 3, none⟩ = some tv)
  (o0 : w.cell? ⟨ob, 0, none⟩ = some (.int .i64 r)) (o1 : w.cell? ⟨ob, 1, none⟩ = some (.int .i64 y)) (hi : t.1 = (i : Int)) :
  Calls Tryz.prog 122 #[.agg #[.int .i64 t.1, .bool t.2], .pointer (some ⟨ib, 0, none⟩), .pointer (some ⟨sb, 0, none⟩), .pointer (some ⟨ob, 0, none⟩)] w fun e w' =>
   e = .returned (.bool (t.2 != closedB b ((r : Int), (y : Int)))) ∧ Ext w w' := by
 have HC := Lib.hid (fun w1 (hx : Ext w w1) => closed_any b rv sv tv r y w1 hB (hr.ext hx) hs ht h1 h2)
 have hx0 : Ext w (w.alloc (.cells #[.int .i64 t.1, .bool t.2] 104)) := (Ext.refl w).alloc _
 have HX0 := Lib.hid hx0
 have HS := Lib.hid (fun W (h : Ext (w.alloc (.cells #[.int .i64 t.1, .bool t.2] 104)) W) => (⟨h.cell (by go_simp), h.cell (by go_simp), (hx0.trans h).cell e1, (hx0.trans h).cell s0, (hx0.trans h).cell s1, (hx0.trans h).cell s2, (hx0.trans h).cell s3, (hx0.trans h).cell o0, (hx0.trans h).cell o1⟩ : (fun w' => w'.cell? ⟨w.heap.size, 0, none⟩ = some (.int .i64 t.1) ∧ w'.cell? ⟨w.heap.size, 1, none⟩ = some (.bool t.2) ∧ w'.cell? ⟨ib, 0, none⟩ = some (.int .i64 i) ∧ w'.cell? ⟨sb, 0, none⟩ = some (.int .i64 b.years) ∧ w'.cell? ⟨sb, 1, none⟩ = some (rv) ∧ w'.cell? ⟨sb, 2, none⟩ = some (sv) ∧ w'.cell? ⟨sb, 3, none⟩ = some (tv) ∧ w'.cell? ⟨ob, 0, none⟩ = some (.int .i64 r) ∧ w'.cell? ⟨ob, 1, none⟩ = some (.int .i64 y)) W))
 obtain ⟨ra, rc, rfl, _⟩ := hr.open
 obtain ⟨sa, sn, sc, rfl⟩ := hs
 obtain ⟨ta, tn, tc, rfl⟩ := ht
 have hmix : Tryz.prog.follows .mixedOrders = true := by kernel_rfl
 have t1 : (t.1 == (i : Int)) = true := by simpa using hi
 clear hi
 clear hr hB e1 s0 s1 s2 s3 o0 o1 hx0
 unfold sackV at HC
 go_enter Tryz.func122, Tryz.ntmps122
 go_upto_region 1 with fail
 refine wp_region_held_drew (S := (fun w' => w'.cell? ⟨w.heap.size, 0, none⟩ = some (.int .i64 t.1) ∧ w'.cell? ⟨w.heap.size, 1, none⟩ = some (.bool t.2) ∧ w'.cell? ⟨ib, 0, none⟩ = some (.int .i64 i) ∧ w'.cell? ⟨sb, 0, none⟩ = some (.int .i64 b.years) ∧ w'.cell? ⟨sb, 1, none⟩ = some (.slice ra b.rivers.length rc) ∧ w'.cell? ⟨sb, 2, none⟩ = some (.slice sa sn sc) ∧ w'.cell? ⟨sb, 3, none⟩ = some (.slice ta tn tc) ∧ w'.cell? ⟨ob, 0, none⟩ = some (.int .i64 r) ∧ w'.cell? ⟨ob, 1, none⟩ = some (.int .i64 y))) (by kernel_rfl) ?_ (fun hHeld => ?_)
 ·exact HS.out _ (by repeat (first | exact hxv | exact Ext.refl _ | apply Ext.drew | apply Ext.alloc))
 refine hTk (i := 0) (d := some 6) (v := ?_) (fun o ho => ?_) hHeld ?_
 rotate_left
 ·simp only [zA, zB, zD] at ho
  subst ho
  refine ⟨by rfl, fun w hSw => ?_⟩
  (try dsimp only at hSw)
  go_simp
  try with_reducible rfl
 try simp only [Act.put, yA, yB, yC]
 refine hTk (i := 1) (d := some 7) (v := ?_) (fun o ho => ?_) hHeld ?_
 rotate_left
 ·simp only [zA, zB, zC, zD] at ho
  subst ho
  refine ⟨by rfl, fun w hSw => ?_⟩
  (try dsimp only at hSw)
  go_simp
  try with_reducible rfl
 try simp only [Act.put, yA, yB, yC]
 refine hTk (i := 2) (d := some 8) (v := ?_) (fun o ho => ?_) hHeld ?_
 rotate_left
 ·simp only [zA, zB, zC, zD] at ho
  subst ho
  refine ⟨by rfl, fun w hSw => ?_⟩
  (try dsimp only at hSw)
  go_simp
  try with_reducible rfl
 try simp only [Act.put, yA, yB, yC]
 refine hTk (i := 3) (d := some 9) (v := ?_) (fun o ho => ?_) hHeld ?_
 rotate_left
 ·simp only [zA, zB, zC, zD] at ho
  subst ho
  refine ⟨by rfl, fun w hSw => ?_⟩
  (try dsimp only at hSw)
  go_simp
  try with_reducible rfl
 try simp only [Act.put, yA, yB, yC]
 refine hTk (i := 4) (d := some 10) (v := ?_) (fun o ho => ?_) hHeld ?_
 rotate_left
 ·simp only [zA, zB, zC, zD] at ho
  subst ho
  refine ⟨by rfl, fun w hSw => ?_⟩
  (try dsimp only at hSw)
  go_simp
  try with_reducible rfl
 try simp only [Act.put, yA, yB, yC]
 refine hTk (i := 5) (d := some 11) (v := ?_) (fun o ho => ?_) hHeld ?_
 rotate_left
 ·simp only [zA, zB, zC, zD] at ho
  subst ho
  refine ⟨by rfl, fun w hSw => ?_⟩
  (try dsimp only at hSw)
  go_simp
  try with_reducible rfl
 try simp only [Act.put, yA, yB, yC]
 refine hTk (i := 6) (d := some 12) (v := ?_) (fun o ho => ?_) hHeld ?_
 rotate_left
 ·simp only [zA, zB, zC, zD] at ho
  subst ho
  refine ⟨by rfl, fun w hSw => ?_⟩
  (try dsimp only at hSw)
  go_simp
  try with_reducible rfl
 try simp only [Act.put, yA, yB, yC]
 refine hTk (i := 7) (d := some 13) (v := ?_) (fun o ho => ?_) hHeld ?_
 rotate_left
 ·simp only [zA, zB, zC, zD] at ho
  subst ho
  refine ⟨by rfl, fun w hSw => ?_⟩
  (try dsimp only at hSw)
  go_simp
  try with_reducible rfl
 try simp only [Act.put, yA, yB, yC]
 refine hTk (i := 8) (d := some 14) (v := ?_) (fun o ho => ?_) hHeld ?_
 rotate_left
 ·simp only [zA, zB, zC, zD] at ho
  subst ho
  refine ⟨by rfl, fun w hSw => ?_⟩
  (try dsimp only at hSw)
  go_simp
  try with_reducible rfl
 try simp only [Act.put, yA, yB, yC]
 refine wpAnyH_ready (rs := [9]) (by kernel_rfl) (by simp) ?_
 refine held_step (i := 9) (by kernel_rfl) (fun o ho K' hK => ?_) ?_
 ·simp only [zA, zB, zC, zD] at ho
  subst ho
  go_simp
  go_at_call 70
  refine (HC.out _ (HX0.out.trans ((Ext.refl _).drew))).mono ?_
  rintro e w1 ⟨rfl, hx1⟩
  have hxv := ((Ext.refl (w.alloc (.cells #[.int .i64 t.1, .bool t.2] 104))).drew).trans hx1
  try go_wp2_with fail
  refine hK.out _ _ ?_ (fun hHeld => ?_)
  ·exact HS.out _ (by repeat (first | exact hxv | exact Ext.refl _ | apply Ext.drew | apply Ext.alloc))
  clear hK K'
  try simp only [yA, yB, yC]
  refine hTk (i := 10) (d := some 16) (v := ?_) (fun o ho => ?_) hHeld ?_
  rotate_left
  ·simp only [zA, zB, zC, zD] at ho
   subst ho
   refine ⟨by rfl, fun w hSw => ?_⟩
   (try dsimp only at hSw)
   go_simp
   try with_reducible rfl
  try simp only [Act.put, yA, yB, yC]
  refine hTk (i := 11) (d := some 17) (v := ?_) (fun o ho => ?_) hHeld ?_
  rotate_left
  ·simp only [zA, zB, zC, zD] at ho
   subst ho
   refine ⟨by rfl, fun w hSw => ?_⟩
   (try dsimp only at hSw)
   go_simp
   try with_reducible rfl
  try simp only [Act.put, yA, yB, yC]
  refine wpAnyH_ready (rs := [12]) (by kernel_rfl) (by simp) ?_
  refine held_step (i := 12) (by kernel_rfl) (fun o ho K' hK => ?_) ?_
  ·simp only [zA, zB, zC, zD] at ho
   subst ho
   go_simp
   refine hK.out _ _ ?_ (fun hHeld => ?_)
   ·exact HS.out _ (by repeat (first | exact hxv | exact Ext.refl _ | apply Ext.drew | apply Ext.alloc))
   clear hK K'
   try simp only [yA, yB, yC]
   refine wpAnyH_done (by kernel_rfl) ?_ _
   try simp only [yA, yB, yC]
   go_wp2
   go_ret
   exact ⟨rfl, HX0.out.trans hxv⟩
  exact AllReadyH.nil
 exact AllReadyH.nil
theorem tested1_any (b : Book) (rv sv tv : Value) (r y i : Nat) (t : Int × Bool) (ib sb ob : Nat) (w : World) (hB : BookB b) (hr : RiversAt w rv b.rivers) (hs : IsSlice sv) (ht : IsSlice tv) (h1 : r < b.rivers.length) (h2 : (y : Int) < b.years)
  (e1 : w.cell? ⟨ib, 0, none⟩ = some (.int .i64 i)) (s0 : w.cell? ⟨sb, 0, none⟩ = some (.int .i64 b.years)) (s1 : w.cell? ⟨sb, 1, none⟩ = some rv) (s2 : w.cell? ⟨sb, 2, none⟩ = some sv) (s3 : w.cell? ⟨sb, 3, none⟩ = some tv)
  (o0 : w.cell? ⟨ob, 0, none⟩ = some (.int .i64 r)) (o1 : w.cell? ⟨ob, 1, none⟩ = some (.int .i64 y)) :
  Calls Tryz.prog 122 #[.agg #[.int .i64 t.1, .bool t.2], .pointer (some ⟨ib, 0, none⟩), .pointer (some ⟨sb, 0, none⟩), .pointer (some ⟨ob, 0, none⟩)] w fun e w' =>
   e = .returned (.bool (decide (t.1 = (i : Int)) && (t.2 != closedB b ((r : Int), (y : Int))))) ∧ Ext w w' := by
 by_cases hi : t.1 = (i : Int)
 ·rw [show (decide (t.1 = (i : Int)) && (t.2 != closedB b ((r : Int), (y : Int)))) = (t.2 != closedB b ((r : Int), (y : Int))) by simp [hi]]
  exact tested1_yes b rv sv tv r y i t ib sb ob w hB hr hs ht h1 h2 e1 s0 s1 s2 s3 o0 o1 hi
 ·rw [show (decide (t.1 = (i : Int)) && (t.2 != closedB b ((r : Int), (y : Int)))) = false by simp [hi]]
  exact tested1_no b rv sv tv r y i t ib sb ob w hB hr hs ht h1 h2 e1 s0 s1 s2 s3 o0 o1 hi
theorem enters_tested1 : ∀ args w, (callFunc 122 args).run Tryz.prog w = .ok (.enter 122 args) w := enters_of Tryz.func122 (by kernel_rfl) rfl
set_option maxRecDepth 100000 in
set_option maxHeartbeats 1000000 in
theorem tested_any (b : Book) (rv sv tv : Value) (tests : List (Int × Bool)) (r y i : Nat) (w : World) (hB : BookB b) (hr : RiversAt w rv b.rivers) (hs : IsSlice sv) (ht : RowOf testC w tv tests) (h1 : r < b.rivers.length) (h2 : (y : Int) < b.years) :
  Calls Tryz.prog 95 #[sackV b rv sv tv, .int .i64 i, .agg #[.int .i64 r, .int .i64 y]] w fun e w' => e = .returned (.bool (testedB b tests i ((r : Int), (y : Int)))) ∧ Ext w w' := by
 obtain ⟨ra, rc, rfl, _⟩ := hr.open
 obtain ⟨ta, tc, rfl, _⟩ := RowAt.open ht
 obtain ⟨sa, sn, sc, rfl⟩ := hs
 have hx0 : Ext w (((w.alloc (.cells #[.int .i64 b.years, .slice ra b.rivers.length rc, .slice sa sn sc, .slice ta tests.length tc] 89)).alloc (.cells #[.int .i64 i] 3)).alloc (.cells #[.int .i64 r, .int .i64 y] 84)) := (((Ext.refl w).alloc _).alloc _).alloc _
 have HC := Lib.hid (containsFuncT (f := testC) (fun t => .int .i64 t.1) (fun t => .bool t.2) (fun _ => rfl) (.slice ta tests.length tc) 122 #[.pointer (some ⟨w.heap.size + 1, 0, none⟩), .pointer (some ⟨w.heap.size, 0, none⟩), .pointer (some ⟨w.heap.size + 2, 0, none⟩)] (fun t => decide (t.1 = (i : Int)) && (t.2 != closedB b ((r : Int), (y : Int)))) tests _ (RowOf.ext ht hx0)
  (fun t _ w1 k => tested1_any b (.slice ra b.rivers.length rc) (.slice sa sn sc) (.slice ta tests.length tc) r y i t _ _ _ w1 hB ((hr.ext hx0).ext k) ⟨_, _, _, rfl⟩ ⟨_, _, _, rfl⟩ h1 h2 (k.cell (by go_simp)) (k.cell (by go_simp)) (k.cell (by go_simp)) (k.cell (by go_simp)) (k.cell (by go_simp)) (k.cell (by go_simp)) (k.cell (by go_simp))) enters_tested1)
 have HX0 := Lib.hid hx0
 clear hr ht hx0 hB h1 h2
 unfold sackV
 go_enter Tryz.func95, Tryz.ntmps95
 go_wp2_with (go_at_call 86; refine HC.out.mono ?_; rintro e w1 ⟨rfl, hx1⟩)
 go_ret
 exact ⟨rfl, HX0.out.trans hx1⟩
/-! ### begin -/
set_option maxRecDepth 100000 in
set_option maxHeartbeats 8000000 in
theorem begin_any (b : Book) (rv sv tv : Value) (w : World) (hB : BookB b) (hr : RiversAt w rv b.rivers) (hs : IsSlice sv) (ht : IsSlice tv) :
  Calls Tryz.prog 97 #[sackV b rv sv tv] w fun e w' => ∃ wv, e = .returned (.agg #[.slice none 0 0, wv]) ∧ SpansOff (· < w.heap.size) w' wv (b.rivers.map River.grow) ∧ Ext w w' := by
 obtain ⟨sa, sn, sc, rfl⟩ := hs
 obtain ⟨ta, tn, tc, rfl⟩ := ht
 obtain ⟨ra, rc, rfl, r1, r2, r3⟩ := hr.open
 have n3 := hB.n2
 have HR3 := Lib.hid r3
 have hlen := hB.len
 have y1 := hB.y1
 have y2 := hB.y2
 have hmix : Tryz.prog.follows .mixedOrders = true := by kernel_rfl
 clear r3
 unfold sackV
 go_enter Tryz.func97, Tryz.ntmps97
 go_wp2
 go_loopw [10] (fun i wr => ∃ (k : Nat) (pv : Value) (vs : List Value), k ≤ b.rivers.length ∧ i = .int .i64 k ∧ Ext w wr ∧ RowsIn (w.heap.size + 3) wr pv vs ((b.rivers.map River.grow).take k) ∧ Box2 wr (w.heap.size + 1) (.slice none 0 0) (.slice none 0 0) ∧ Box2 wr (w.heap.size + 2) (.slice none 0 0) pv) (fun i _ => b.rivers.length - (intOf i).toNat)
 case atStart => exact ⟨0, .slice none 0 0, [], Nat.zero_le _, rfl, (((Ext.refl w).alloc _).alloc _).alloc _, RowsIn.nil _ _, ⟨by go_simp, by go_simp, by go_simp, by go_simp⟩, ⟨by go_simp, by go_simp, by go_simp, by go_simp⟩⟩
 case round =>
  obtain ⟨k, pv, vs, hk, rfl, hx, hrows, hb1, hb2⟩ := hrel
  by_cases hlt : k < b.rivers.length
  ·have x1 : decide ((k : Int) < (b.rivers.length : Int)) = true := by simpa using hlt
   obtain ⟨rb, ro, gv, R, rfl, hR, d0, d1, d2, hg⟩ := HR3.out k hlt
   obtain ⟨ga, gc, rfl, _⟩ := hg.open
   have hgl := hlen R (List.mem_of_getElem? hR.out)
   have hne : R.grow ≠ [] := fun e => by rw [e] at hgl; simp at hgl; omega
   have q0 := hx.cell d0
   have q1 := hx.cell d1
   have q2 := hx.cell d2
   obtain ⟨wa, hwa⟩ : ∃ wa, wa = wr.alloc (.cells #[.slice ga R.grow.length gc, .int .i64 R.vary, .int .i64 R.closed] 62) := ⟨_, rfl⟩
   have hxa : Ext wr wa := by rw [hwa]; exact (Ext.refl wr).alloc _
   have hza : wa.heap.size = wr.heap.size + 1 := by rw [hwa]; simp
   have hbx : wa.cell? ⟨wr.heap.size, 0, none⟩ = some (.slice ga R.grow.length gc) := by rw [hwa]; go_simp
   have HCL := Lib.hid (fun w1 (h : Ext wa w1) => clone_spans (.slice ga R.grow.length gc) R.grow.length (R.grow.flatMap pairC) w1 (RowAt.ext hg ((hx.trans hxa).trans h)) (pairs_len _) (pairs_one _) (by omega))
   have htk : ((b.rivers.map River.grow).take (k + 1)) = ((b.rivers.map River.grow).take k) ++ [R.grow] := by
    rw [List.take_add_one, List.getElem?_map, hR.out]; rfl
   have hpvs : ∃ pa pn pc, pv = .slice pa pn pc := by
    obtain ⟨a, c, h, _⟩ := RowAt.open (RowAt.of_owns hrows.own)
    exact ⟨a, _, c, h⟩
   obtain ⟨pa, pn, pc, rfl⟩ := hpvs
   have hvl : vs.length = k := by rw [hrows.len, List.length_take, List.length_map]; omega
   have hsz : vs.length + 1 ≤ maxLen ∧ (vs.length + 1) * 24 ≤ 140737488355328 := by unfold maxLen; omega
   have HSZ := Lib.hid hsz
   have HTK := Lib.hid htk
   have HROW := Lib.hid hrows
   have HB1 := Lib.hid hb1
   have hlt2 := hb2.lt
   have HB2 := Lib.hid hb2
   have HNE := Lib.hid hne
   have hb2a := hb2.ext (hxa.drew)
   have hqa := hb2a.c1
   have hba := (Ext.refl wa).drew.cell hbx
   have g2 := hb2.f1
   have u2 := hb2.c1
   clear htk hrows hb1 hb2 hsz hgl hne hg d0 d1 d2 hb2a hvl
   go_upto_region 5 with fail
   rw [← hwa]
   clear hwa q0 q1 q2
   refine wp_region_noPanic ?_
   refine wp_region_any (by kernel_rfl) (wpAny_of_till (z := 8) (S := (fun w' => w'.cell? ⟨w.heap.size + 2, 1, none⟩ = some (.slice pa pn pc) ∧ w'.cell? ⟨wr.heap.size, 0, none⟩ = some (.slice ga R.grow.length gc))) _ _ _ _ ?_)
   change wpTill _ _ _ _ _ _ _ _ _ wa.drew
   have hS0 := (show wa.drew.cell? ⟨w.heap.size + 2, 1, none⟩ = some (.slice pa pn pc) ∧ wa.drew.cell? ⟨wr.heap.size, 0, none⟩ = some (.slice ga R.grow.length gc) from ⟨hqa, hba⟩)
   refine till_at (i := 0) (d := some 14) (v := ?_) (by kernel_rfl) (by kernel_rfl) (by kernel_rfl) (by kernel_rfl) (by kernel_rfl) (fun _ _ _ h => h) (fun o ho => ?_) hS0 ?_
   rotate_left
   ·simp only [zA, zB, zD] at ho
    subst ho
    refine Or.inl ⟨by rfl, fun w' hSw => ?_⟩
    obtain ⟨hSw0, hSw1⟩ := hSw
    go_simp
    try with_reducible rfl
   try simp only [Act.put, yA, yB, yC]
   refine till_at (i := 1) (d := some 15) (v := ?_) (by kernel_rfl) (by kernel_rfl) (by kernel_rfl) (by kernel_rfl) (by kernel_rfl) (fun _ _ _ h => h) (fun o ho => ?_) hS0 ?_
   rotate_left
   ·simp only [zA, zB, zC, zD] at ho
    subst ho
    refine Or.inl ⟨by rfl, fun w' hSw => ?_⟩
    obtain ⟨hSw0, hSw1⟩ := hSw
    go_simp
    try with_reducible rfl
   try simp only [Act.put, yA, yB, yC]
   refine till_at (i := 2) (d := some 16) (v := ?_) (by kernel_rfl) (by kernel_rfl) (by kernel_rfl) (by kernel_rfl) (by kernel_rfl) (fun _ _ _ h => h) (fun o ho => ?_) hS0 ?_
   rotate_left
   ·simp only [zA, zB, zC, zD] at ho
    subst ho
    refine Or.inl ⟨by rfl, fun w' hSw => ?_⟩
    obtain ⟨hSw0, hSw1⟩ := hSw
    go_simp
    try with_reducible rfl
   try simp only [Act.put, yA, yB, yC]
   refine till_at (i := 3) (d := some 17) (v := ?_) (by kernel_rfl) (by kernel_rfl) (by kernel_rfl) (by kernel_rfl) (by kernel_rfl) (fun _ _ _ h => h) (fun o ho => ?_) hS0 ?_
   rotate_left
   ·simp only [zA, zB, zC, zD] at ho
    subst ho
    refine Or.inl ⟨by rfl, fun w' hSw => ?_⟩
    obtain ⟨hSw0, hSw1⟩ := hSw
    go_simp
    try with_reducible rfl
   try simp only [Act.put, yA, yB, yC]
   refine till_step (i := 4) (by kernel_rfl) (by kernel_rfl) (fun o ho K' hK => ?_)
   simp only [zA, zB, zC, zD] at ho
   subst ho
   go_simp
   go_at_call 51
   refine (HCL.out _ (Ext.refl wa).drew).mono ?_
   rintro e w1 ⟨u, rfl, own1, hx1⟩
   obtain ⟨ua, uc, rfl, _⟩ := RowAt.open (RowAt.of_owns own1)
   have hqb := hx1.cell hqa
   have hbb := hx1.cell hba
   go_simp
   have hS4 := And.intro hqb hbb
   refine hK.out _ _ (fun _ => hS4) (fun _ => ?_)
   clear hK K'
   try simp only [Act.put, yA, yB, yC]
   refine till_step (i := 5) (by kernel_rfl) (by kernel_rfl) (fun o ho K' hK => ?_)
   simp only [zA, zB, zC, zD] at ho
   subst ho
   go_simp
   have hS5 := And.intro (((Ext.refl w1).alloc (.cells #[.slice ua R.grow.length uc] 60)).cell hqb) (((Ext.refl w1).alloc (.cells #[.slice ua R.grow.length uc] 60)).cell hbb)
   refine hK.out _ _ (fun _ => hS5) (fun _ => ?_)
   clear hK K'
   try simp only [Act.put, yA, yB, yC]
   refine till_step (i := 6) (by kernel_rfl) (by kernel_rfl) (fun o ho K' hK => ?_)
   simp only [zA, zB, zC, zD] at ho
   subst ho
   refine step_push_at E_rows (by rfl) _ _ (by rfl) (w.heap.size + 3) (by rfl) (owns_ext HROW.out.own (hxa.drew.trans hx1)) (by rfl) (by rfl) (by rfl) (by simp [Value.oneCell']) ?_ HSZ.out.1 HSZ.out.2 (by have := (hxa.drew.trans hx1).size; omega)
   intro g5 cap5 w5 own5 hg5 hloc5
   have hT5' := Touch.grown (M := fun i => (Value.slice pa pn pc).ownBlock = some i) hg5 (fun i hi => hi)
   have hnb5 : ∀ i, (Value.slice pa pn pc).ownBlock = some i → w.heap.size + 3 ≤ i ∧ i < wr.heap.size := fun i hi => ⟨owns_block HROW.out.own i hi, (World.ownsRow.lt HROW.out.own i hi).2⟩
   have hqc := hT5'.cell (((Ext.refl w1).alloc _).cell hqb) (fun h => absurd (hnb5 (w.heap.size + 2) h).1 (by omega))
   have hbc := hT5'.cell (((Ext.refl w1).alloc _).cell hbb) (fun h => absurd (hnb5 wr.heap.size h).2 (by omega))
   have hfc := (hT5'.frozen (((Ext.refl w1).alloc _).cell hqb) (fun h => absurd (hnb5 (w.heap.size + 2) h).1 (by omega))).trans ((((hxa.drew.trans hx1).alloc _).frozen hlt2).trans g2)
   have hS6 := (show w5.cell? ⟨w.heap.size + 2, 1, none⟩ = some (.slice pa pn pc) ∧ w5.cell? ⟨wr.heap.size, 0, none⟩ = some (.slice ga R.grow.length gc) from ⟨hqc, hbc⟩)
   refine hK.out _ _ (fun _ => hS6) (fun _ => ?_)
   clear hK K'
   try simp only [Act.put, yA, yB, yC]
   refine till_at (i := 7) (d := some 21) (v := ?_) (by kernel_rfl) (by kernel_rfl) (by kernel_rfl) (by kernel_rfl) (by kernel_rfl) (fun _ _ _ h => h) (fun o ho => ?_) hS6 ?_
   rotate_left
   ·simp only [zA, zB, zC, zD] at ho
    subst ho
    refine Or.inl ⟨by rfl, fun w' hSw => ?_⟩
    obtain ⟨hSw0, hSw1⟩ := hSw
    go_simp
    try with_reducible rfl
   try simp only [Act.put, yA, yB, yC]
   refine till_step (i := 8) (by kernel_rfl) (by kernel_rfl) (fun o ho K' hK => ?_)
   simp only [zA, zB, zC, zD] at ho
   subst ho
   go_simp
   refine hK.out _ _ (fun h => absurd rfl h) (fun _ => ?_)
   clear hK K'
   try simp only [Act.put, yA, yB, yC]
   refine till_done (by kernel_rfl) ?_ _
   refine NoPanic.normal ?_
   try simp only [Act.put, yA, yB, yC]
   have hT5 : Touch (fun i => (Value.slice pa pn pc).ownBlock = some i) wr w5 := (Touch.of_ext ((hxa.drew.trans hx1).alloc (.cells #[.slice ua R.grow.length uc] 60))).trans (Touch.grown hg5 (fun i hi => hi))
   have hnb : ∀ i, (Value.slice pa pn pc).ownBlock = some i → w.heap.size + 3 ≤ i := fun i hi => owns_block HROW.out.own i hi
   have hx5 : Ext w w5 := Touch.ext hx hT5 (fun i hi => by have := hnb i hi; omega)
   have hb1' := HB1.out.touch hT5 (fun h => by have := hnb _ h; omega)
   have hb2' := HB2.out.touch hT5 (fun h => by have := hnb _ h; omega)
   have hpush := HROW.out.push (by have := HROW.out; omega) (hxa.drew.trans hx1) (RowAt.of_owns own1) HNE.out (fun a n c ha hm => by
    have h1 := owns_block own1 a.block (by rw [ha]; rfl)
    have h2 : wr.heap.size ≤ wa.drew.heap.size := hxa.drew.size
    have h3 : a.block < wr.heap.size := hm
    omega) own5 hg5 hloc5
   have HN := Lib.hid (hpush.touch (Touch.setCell (M := (· = w.heap.size + 2)) (A := w5) (a := ⟨w.heap.size + 2, 1, none⟩) (.slice (some ⟨g5, 0, none⟩) (vs.length + 1) cap5) rfl) (fun j hj => by omega))
   have hbb : Box2 (w5.setCell ⟨w.heap.size + 2, 1, none⟩ (.slice (some ⟨g5, 0, none⟩) (vs.length + 1) cap5)) (w.heap.size + 2) (.slice none 0 0) (.slice (some ⟨g5, 0, none⟩) (vs.length + 1) cap5) := by
    obtain ⟨h1, h2, h3, h4⟩ := hb2'
    exact ⟨by go_simp, by go_simp, by go_simp, by go_simp⟩
   have hba' := hb1'.touch (Touch.setCell (M := (· = w.heap.size + 2)) (A := w5) (a := ⟨w.heap.size + 2, 1, none⟩) (.slice (some ⟨g5, 0, none⟩) (vs.length + 1) cap5) rfl) (by omega)
   have HBB := Lib.hid (And.intro hba' (And.intro hbb (hx5.setCell (p := ⟨w.heap.size + 2, 1, none⟩) (by simp) (.slice (some ⟨g5, 0, none⟩) (vs.length + 1) cap5))))
   clear hpush hbb hba' hb1' hb2' hx5 hT5 own5 hg5 hloc5 own1
   go_wp2
   exact ⟨⟨k + 1, _, _, by omega, by go_num, HBB.out.2.2, by rw [HTK.out]; exact HN.out, HBB.out.1, HBB.out.2.1⟩, by simp [intOf]; omega⟩
  ·have x1 : decide ((k : Int) < (b.rivers.length : Int)) = false := by simpa using hlt
   have hke : k = b.rivers.length := by omega
   have hoff := hrows.off
   rw [hke, List.take_of_length_le (by simp)] at hoff
   have hpvs : ∃ pa pn pc, pv = .slice pa pn pc := by
    obtain ⟨a, c, h, _⟩ := RowAt.open (RowAt.of_owns hrows.own)
    exact ⟨a, _, c, h⟩
   obtain ⟨pa, pn, pc, rfl⟩ := hpvs
   have HOFF := Lib.hid hoff
   have HX := Lib.hid hx
   have HB1 := Lib.hid hb1
   have hset := hb1.set (.slice none 0 0) (.slice pa pn pc)
   obtain ⟨w0, w1, _, _⟩ := hset
   obtain ⟨u0, u1, g0, g1⟩ := hb1
   obtain ⟨u2, u3, g2, g3⟩ := hb2
   clear hke hrows hx hoff
   go_wp2
   have hT : Touch (· = w.heap.size + 1) wr ((wr.setCell ⟨w.heap.size + 1, 0, none⟩ (.slice none 0 0)).setCell ⟨w.heap.size + 1, 1, none⟩ (.slice pa pn pc)) := ((Touch.refl _ wr).trans (Touch.setCell _ (by rfl))).trans (Touch.setCell _ (by rfl))
   refine bodyPost_ret (v := .agg #[.slice none 0 0, .slice pa pn pc]) (by simp [results, Tryz.results97, go_sem, *]) rfl ⟨_, rfl, ?_, Touch.ext HX.out hT (fun i hi => by omega)⟩
   exact ((HOFF.out.less (N := fun j => j < w.heap.size + 2) (fun j hj => by omega)).touch (hT.mono (fun j hj => by omega))).less (fun j hj => by omega)
end Go.Proofs.YtiodjapdiflphaaGreatDoor
