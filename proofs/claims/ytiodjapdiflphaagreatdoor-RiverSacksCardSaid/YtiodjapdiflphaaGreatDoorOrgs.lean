/- The library's small functions at integers and origins: Compare, Or, Index, Contains; could's closure. -/
import Derived.Test.YtiodjapdiflphaaGreatDoorStateb
import Derived.Test.YtiodjapdiflphaaGreatDoorTwoi
import Derived.Sort.Grow
import Derived.Shelf.SlLaysF0
import Derived.Shelf.Sort.Plain
import Derived.Test.YtiodjapdiflphaaGreatDoorProg
import Derived.Shelf.SlSortCmp.WholeK
import Derived.Shelf.SlSortCmp.NoneTotal
namespace Go.Proofs.YtiodjapdiflphaaGreatDoor
open Go.RowKit
def cmpI (x y : Int) : Int := if x < y then -1 else if y < x then 1 else 0
def orI : List Int → Int
 | [] => 0
 | x :: l => if x = 0 then orI l else x
theorem isNaN_any (n : Int) (w : World) :
  Calls Tryz.prog 120 #[.int .i64 n] w fun e w' => e = .returned (.bool false) ∧ w = w' := by
 go_enter Tryz.func120, Tryz.ntmps120
 go_wp2
 go_ret
 simp
theorem compare_any (x y : Int) (w : World) :
  Calls Tryz.prog 92 #[.int .i64 x, .int .i64 y] w fun e w' => e = .returned (.int .i64 (cmpI x y)) ∧ w = w' := by
 unfold cmpI
 by_cases h1 : x < y
 ·rw [if_pos h1]
  go_enter Tryz.func92, Tryz.ntmps92
  go_wp2_with (go_at_call 120; refine (isNaN_any _ _).mono ?_; rintro e w' ⟨rfl, rfl⟩)
  go_ret
  simp
 ·by_cases h2 : y < x
  ·rw [if_neg h1, if_pos h2]
   go_enter Tryz.func92, Tryz.ntmps92
   go_wp2_with (go_at_call 120; refine (isNaN_any _ _).mono ?_; rintro e w' ⟨rfl, rfl⟩)
   go_ret
   simp
  ·rw [if_neg h1, if_neg h2]
   go_enter Tryz.func92, Tryz.ntmps92
   go_wp2_with (go_at_call 120; refine (isNaN_any _ _).mono ?_; rintro e w' ⟨rfl, rfl⟩)
   go_ret
   simp
theorem orI_take {xs : List Int} {k : Nat} (h : ∀ x, x ∈ xs.take k → x = 0) : orI xs = orI (xs.drop k) := by
 induction k generalizing xs with
 | zero => rfl
 | succ k ih =>
  cases xs with
  | nil => rfl
  | cons x l =>
   have h0 : x = 0 := h x (by simp)
   simp only [orI, h0, if_true, List.drop_succ_cons]
   exact ih (fun y hy => h y (by simp [hy]))
theorem orI_at {xs : List Int} {k : Nat} {x : Int} (hx : xs[k]? = some x) (h : ∀ y, y ∈ xs.take k → y = 0) (hn : x ≠ 0) : orI xs = x := by
 rw [orI_take h]
 obtain ⟨hk, rfl⟩ := List.getElem?_eq_some_iff.1 hx
 rw [List.drop_eq_getElem_cons hk]
 simp [orI, hn]
theorem or_any (v : Value) (xs : List Int) (w : World) (hv : IntsAt w v xs) :
  Calls Tryz.prog 91 #[v] w fun e w' => e = .returned (.int .i64 (orI xs)) ∧ w = w' := by
 obtain ⟨a, c, rfl, h1, h2, h3⟩ := hv.open
 go_enter Tryz.func91, Tryz.ntmps91
 go_wp2
 go_loop [8] (fun i => ∃ k : Nat, k ≤ xs.length ∧ i = .int .i64 k ∧ Hid (∀ y, y ∈ xs.take k → y = 0)) (fun i => xs.length - (intOf i).toNat)
 case atStart => exact ⟨0, Nat.zero_le _, rfl, by simp [Hid]⟩
 case round =>
  obtain ⟨k, hk, rfl, hz⟩ := hrel
  by_cases hlt : k < xs.length
  ·obtain ⟨b, o, x, rfl, hxk, hc⟩ := h3 k hlt
   clear h3
   by_cases h0 : x = 0
   ·have hb : (x != 0) = false := by simp [h0]
    have h0' := Lib.hid h0
    clear h0
    go_wp2
    go_round
    case rel => exact ⟨k + 1, by omega, by go_num, by
     unfold Hid; intro y hy
     rw [List.take_add_one, hxk.out] at hy
     rcases List.mem_append.1 hy with hy | hy
     ·exact hz.out y hy
     ·simp at hy; rw [hy]; exact h0'.out⟩
    case measure => simp [intOf]; omega
   ·have hb : (x != 0) = true := by simp [h0]
    go_wp2
    go_ret
    exact ⟨by rw [orI_at hxk.out hz.out h0]; rfl, rfl⟩
  ·go_wp2
   go_ret
   exact ⟨by have h := orI_take hz.out; rw [List.drop_of_length_le (by omega)] at h; rw [h]; rfl, rfl⟩
def IdxIn (b : Bool) (w : World) (e : Ending) (w' : World) : Prop := ∃ n : Int, e = .returned (.int .i64 n) ∧ decide (0 ≤ n) = b ∧ w = w'
theorem index_any (v : Value) (xs : List Int) (y : Int) (w : World) (hv : IntsAt w v xs) :
  Calls Tryz.prog 111 #[v, .int .i64 y] w (IdxIn (decide (y ∈ xs)) w) := by
 obtain ⟨a, c, rfl, h1, h2, h3⟩ := hv.open
 go_enter Tryz.func111, Tryz.ntmps111
 go_wp2
 go_loop [8] (fun i => ∃ k : Nat, k ≤ xs.length ∧ i = .int .i64 k ∧ Hid (y ∉ xs.take k)) (fun i => xs.length - (intOf i).toNat)
 case atStart => exact ⟨0, Nat.zero_le _, rfl, by simp [Hid]⟩
 case round =>
  obtain ⟨k, hk, rfl, hno⟩ := hrel
  by_cases hlt : k < xs.length
  ·obtain ⟨b, o, x, rfl, hxk, hc⟩ := h3 k hlt
   clear h3 hv
   by_cases hxy : y = x
   ·subst hxy
    have hfin : Hid (y ∈ xs) := List.mem_of_getElem? hxk.out
    go_wp2
    go_ret
    exact ⟨_, rfl, by have h := hfin.out; simp [h], rfl⟩
   ·have hb : (y == x) = false := by simpa using hxy
    have hxy' := Lib.hid hxy
    clear hxy
    go_wp2
    go_round
    case rel => exact ⟨k + 1, by omega, by go_num, by
     unfold Hid; rw [List.take_add_one, hxk.out]; simp only [Option.toList_some, List.mem_append, List.mem_singleton, not_or]; exact ⟨hno.out, hxy'.out⟩⟩
    case measure => simp [intOf]; omega
  ·have hfin : Hid (¬ y ∈ xs) := by
    have h := hno.out; rw [List.take_of_length_le (by omega)] at h; exact h
   go_wp2
   go_ret
   exact ⟨_, rfl, by have h := hfin.out; simp [h], rfl⟩
theorem contains_any (v : Value) (xs : List Int) (y : Int) (w : World) (hv : IntsAt w v xs) :
  Calls Tryz.prog 71 #[v, .int .i64 y] w fun e w' => e = .returned (.bool (decide (y ∈ xs))) ∧ w = w' := by
 go_enter Tryz.func71, Tryz.ntmps71
 go_wp2_with (go_at_call 111; refine (index_any v xs y _ hv).mono ?_; rintro e w' ⟨n, rfl, hn, rfl⟩)
 go_ret
 exact ⟨by simp, rfl⟩
theorem two_fields {l : List Field} {n1 n2 : String} {t1 t2 o1 o2 : Nat} (h : (l.map fun f => (f.name, f.type, f.offset)) = [(n1, t1, o1), (n2, t2, o2)]) : ∃ f1 f2 : Field, l = [f1, f2] ∧ f1.name = n1 ∧ f1.type = t1 ∧ f1.offset = o1 ∧ f2.name = n2 ∧ f2.type = t2 ∧ f2.offset = o2 := by
 match l, h with
 | [f1, f2], h => simp at h; exact ⟨f1, f2, rfl, h.1.1, h.1.2.1, h.1.2.2, h.2.1, h.2.2.1, h.2.2.2⟩
theorem org_fields : ((Tryz.prog.fieldsOf 84).toList.map fun f => (f.name, f.type, f.offset)) = [("River", 3, 0), ("Year", 3, 1)] := by kernel_rfl
theorem org_under : Tryz.prog.underlying 84 = some (.struct (Tryz.prog.fieldsOf 84)) := by kernel_rfl
theorem org_held : Tryz.prog.stoodInHeld 84 = false := by kernel_rfl
theorem org_guard : Tryz.prog.eqGuardType Tryz.prog.depth 84 = false := by kernel_rfl
theorem org_equal (a b c d : Int) (w : World) : (Op.equalIn 10000 84 (.agg #[.int .i64 a, .int .i64 b]) (.agg #[.int .i64 c, .int .i64 d])).run Tryz.prog w = .ok (a == c && b == d) w := by
 obtain ⟨f1, f2, hf, n1, t1, o1, n2, t2, o2⟩ := two_fields org_fields
 have hu := Tryz.underlying3
 rw [run_equalIn_struct w 9999 _ _ _ org_under org_held, hf]
 cases h1 : (a == c) <;> cases h2 : (b == d) <;> simp [Op.eqFields, go_sem, n1, t1, o1, n2, t2, o2, hu, h1, h2]
theorem org_neq (a b c d : Int) (w : World) : (binOp .neq 84 (.agg #[.int .i64 a, .int .i64 b]) (.agg #[.int .i64 c, .int .i64 d])).run Tryz.prog w = .ok (.bool (!(a == c && b == d))) w := by
 rw [run_neq_struct, org_equal]; rfl
theorem org_eql (a b c d : Int) (w : World) : (binOp .eql 84 (.agg #[.int .i64 a, .int .i64 b]) (.agg #[.int .i64 c, .int .i64 d])).run Tryz.prog w = .ok (.bool (a == c && b == d)) w := by
 rw [run_eql_struct, org_equal]; rfl
set_option maxRecDepth 100000 in
set_option maxHeartbeats 1000000 in
theorem indexO_any (v : Value) (xs : List Org) (y : Org) (w : World) (hv : PairsAt w v xs) :
  Calls Tryz.prog 118 #[v, orgV y] w fun e w' => ∃ n : Int, e = .returned (.int .i64 n) ∧ decide (0 ≤ n) = decide (y ∈ xs) ∧ Ext w w' := by
 obtain ⟨a, c, rfl, h1, h2, h3⟩ := hv.open
 have HE := Lib.hid (fun (a b c d : Int) (w : World) => org_eql a b c d w)
 have hx0 : Ext w (w.alloc (.cells #[.int .i64 y.1, .int .i64 y.2] 84)) := (Ext.refl w).alloc _
 unfold orgV
 go_enter Tryz.func118, Tryz.ntmps118
 go_wp2
 go_loopw [8] (fun i wr => ∃ k : Nat, k ≤ xs.length ∧ i = .int .i64 k ∧ Hid (y ∉ xs.take k) ∧ Ext (w.alloc (.cells #[.int .i64 y.1, .int .i64 y.2] 84)) wr) (fun i _ => xs.length - (intOf i).toNat)
 case atStart => exact ⟨0, Nat.zero_le _, rfl, by simp [Hid], Ext.refl _⟩
 case round =>
  obtain ⟨k, hk, rfl, hno, hxr⟩ := hrel
  by_cases hlt : k < xs.length
  ·obtain ⟨b, o, x, rfl, hxk, hc0, hc1⟩ := h3 k hlt
   have t1 : decide ((k : Int) < (xs.length : Int)) = true := by simpa using hlt
   have i1 : (0 : Int) ≤ (k : Int) := by omega
   have i2 : (k : Int) < (xs.length : Int) := by omega
   have q0 := (hx0.trans hxr).cell hc0
   have q1 := (hx0.trans hxr).cell hc1
   have p0 := hxr.cell (a := ⟨w.heap.size, 0, none⟩) (v := .int .i64 y.1) (by go_simp)
   have p1 := hxr.cell (a := ⟨w.heap.size, 1, none⟩) (v := .int .i64 y.2) (by go_simp)
   have HX := Lib.hid (hx0.trans hxr)
   have HXR := Lib.hid hxr
   clear h3 hv hc0 hc1 hxr hx0
   have hq := org_eql y.1 y.2 x.1 x.2
   by_cases hxy : y = x
   ·have hfin : Hid (y ∈ xs) := hxy ▸ List.mem_of_getElem? hxk.out
    have hb : (y.1 == x.1 && y.2 == x.2) = true := by rw [hxy]; simp
    rw [hb] at hq
    clear hxy hb
    go_upto_region 4 with fail
    go_quiet (fail)
    go_wp2
    go_ret
    exact ⟨_, rfl, by have h := hfin.out; simp [h], HX.out.drewN _⟩
   ·have hb : (y.1 == x.1 && y.2 == x.2) = false := by
     rw [← Bool.not_eq_true, Bool.and_eq_true, beq_iff_eq, beq_iff_eq]
     exact fun h => hxy (Prod.ext h.1 h.2)
    rw [hb] at hq
    have hxy' := Lib.hid hxy
    clear hxy hb
    go_upto_region 4 with fail
    go_quiet (fail)
    go_wp2
    exact ⟨⟨k + 1, by omega, by go_num, by
     unfold Hid; rw [List.take_add_one, hxk.out]; simp only [Option.toList_some, List.mem_append, List.mem_singleton, not_or]; exact ⟨hno.out, hxy'.out⟩, HXR.out.drewN _⟩, by simp [intOf]; omega⟩
  ·have hfin : Hid (¬ y ∈ xs) := by
    have h := hno.out; rw [List.take_of_length_le (by omega)] at h; exact h
   have t1 : decide ((k : Int) < (xs.length : Int)) = false := by simpa using hlt
   go_wp2
   go_ret
   exact ⟨_, rfl, by have h := hfin.out; simp [h], hx0.trans hxr⟩
theorem containsO_any (v : Value) (xs : List Org) (y : Org) (w : World) (hv : PairsAt w v xs) :
  Calls Tryz.prog 88 #[v, orgV y] w fun e w' => e = .returned (.bool (decide (y ∈ xs))) ∧ Ext w w' := by
 have HI := Lib.hid (fun w1 (h : Ext w w1) => indexO_any v xs y w1 (hv.ext h))
 obtain ⟨a, c, rfl, h1, h2, h3⟩ := hv.open
 have HX := Lib.hid ((Ext.refl w).alloc (.cells #[.int .i64 y.1, .int .i64 y.2] 84))
 clear hv h3
 unfold orgV at HI ⊢
 go_enter Tryz.func88, Tryz.ntmps88
 go_wp2_with (go_at_call 118; refine (HI.out _ HX.out).mono ?_; rintro e w' ⟨n, rfl, hn, hx'⟩)
 go_ret
 exact ⟨by simp, HX.out.trans hx'⟩
/-! ### could's closure -/
def cmpO (x y : Org) : Int := orI [cmpI x.1 y.1, cmpI x.2 y.2]
set_option maxRecDepth 100000 in
set_option maxHeartbeats 1000000 in
theorem could1_any (x y : Org) (w : World) : Calls Tryz.prog 90 #[orgV x, orgV y] w fun e w' => e = .returned (.int .i64 (cmpO x y)) ∧ ∃ q os', w' = Go.Sort.grow (w.drewN q) os' := by
 have hmix : Tryz.prog.follows .mixedOrders = true := by kernel_rfl
 have HOR := Lib.hid (fun (c d : Int) (W : World) (hi : IntsAt W (.slice (some ⟨w.heap.size + 2, 0, none⟩) 2 2) [c, d]) => or_any (.slice (some ⟨w.heap.size + 2, 0, none⟩) 2 2) [c, d] W hi)
 unfold orgV cmpO
 go_enter Tryz.func90, Tryz.ntmps90
 go_upto_region 1 with fail
 refine wp_region_held_drew (S := (fun w' => w'.cell? ⟨w.heap.size, 0, none⟩ = some (.int .i64 x.1) ∧ w'.cell? ⟨w.heap.size, 1, none⟩ = some (.int .i64 x.2) ∧ w'.cell? ⟨w.heap.size + 1, 0, none⟩ = some (.int .i64 y.1) ∧ w'.cell? ⟨w.heap.size + 1, 1, none⟩ = some (.int .i64 y.2))) (by kernel_rfl) ?_ (fun hHeld => ?_)
 ·exact ⟨by go_simp, by go_simp, by go_simp, by go_simp⟩
 refine hTk (i := 0) (d := some 5) (v := ?_) (fun o ho => ?_) hHeld ?_
 rotate_left
 ·simp only [zA, zB, zD] at ho
  subst ho
  refine ⟨by rfl, fun w hSw => ?_⟩
  (try dsimp only at hSw)
  go_simp
  try with_reducible rfl
 try simp only [Act.put, yA, yB, yC]
 refine hTk (i := 1) (d := some 6) (v := ?_) (fun o ho => ?_) hHeld ?_
 rotate_left
 ·simp only [zA, zB, zC, zD] at ho
  subst ho
  refine ⟨by rfl, fun w hSw => ?_⟩
  (try dsimp only at hSw)
  go_simp
  try with_reducible rfl
 try simp only [Act.put, yA, yB, yC]
 refine hTk (i := 2) (d := some 7) (v := ?_) (fun o ho => ?_) hHeld ?_
 rotate_left
 ·simp only [zA, zB, zC, zD] at ho
  subst ho
  refine ⟨by rfl, fun w hSw => ?_⟩
  (try dsimp only at hSw)
  go_simp
  try with_reducible rfl
 try simp only [Act.put, yA, yB, yC]
 refine hTk (i := 3) (d := some 8) (v := ?_) (fun o ho => ?_) hHeld ?_
 rotate_left
 ·simp only [zA, zB, zC, zD] at ho
  subst ho
  refine ⟨by rfl, fun w hSw => ?_⟩
  (try dsimp only at hSw)
  go_simp
  try with_reducible rfl
 try simp only [Act.put, yA, yB, yC]
 refine hTk (i := 5) (d := some 10) (v := ?_) (fun o ho => ?_) hHeld ?_
 rotate_left
 ·simp only [zA, zB, zC, zD] at ho
  subst ho
  refine ⟨by rfl, fun w hSw => ?_⟩
  (try dsimp only at hSw)
  go_simp
  try with_reducible rfl
 try simp only [Act.put, yA, yB, yC]
 refine hTk (i := 6) (d := some 11) (v := ?_) (fun o ho => ?_) hHeld ?_
 rotate_left
 ·simp only [zA, zB, zC, zD] at ho
  subst ho
  refine ⟨by rfl, fun w hSw => ?_⟩
  (try dsimp only at hSw)
  go_simp
  try with_reducible rfl
 try simp only [Act.put, yA, yB, yC]
 refine hTk (i := 7) (d := some 12) (v := ?_) (fun o ho => ?_) hHeld ?_
 rotate_left
 ·simp only [zA, zB, zC, zD] at ho
  subst ho
  refine ⟨by rfl, fun w hSw => ?_⟩
  (try dsimp only at hSw)
  go_simp
  try with_reducible rfl
 try simp only [Act.put, yA, yB, yC]
 refine hTk (i := 8) (d := some 13) (v := ?_) (fun o ho => ?_) hHeld ?_
 rotate_left
 ·simp only [zA, zB, zC, zD] at ho
  subst ho
  refine ⟨by rfl, fun w hSw => ?_⟩
  (try dsimp only at hSw)
  go_simp
  try with_reducible rfl
 try simp only [Act.put, yA, yB, yC]
 refine wpAnyH_ready (rs := [4]) (by kernel_rfl) (by simp) ?_
 refine held_step (i := 4) (by kernel_rfl) (fun o ho K' hK => ?_) ?_
 ·simp only [zA, zB, zC, zD] at ho
  subst ho
  go_simp
  go_at_call 92
  refine (compare_any _ _ _).mono ?_
  rintro e w1 ⟨rfl, rfl⟩
  try go_simp
  refine hK.out _ _ ?_ (fun hHeld => ?_)
  ·exact ⟨by go_simp, by go_simp, by go_simp, by go_simp⟩
  clear hK K'
  try simp only [yA, yB, yC]
  refine wpAnyH_ready (rs := [9]) (by kernel_rfl) (by simp) ?_
  refine held_step (i := 9) (by kernel_rfl) (fun o ho K' hK => ?_) ?_
  ·simp only [zA, zB, zC, zD] at ho
   subst ho
   go_simp
   go_at_call 92
   refine (compare_any _ _ _).mono ?_
   rintro e w1 ⟨rfl, rfl⟩
   try go_simp
   refine hK.out _ _ ?_ (fun hHeld => ?_)
   ·exact ⟨by go_simp, by go_simp, by go_simp, by go_simp⟩
   clear hK K'
   try simp only [yA, yB, yC]
   refine wpAnyH_ready (rs := [10]) (by kernel_rfl) (by simp) ?_
   refine held_step (i := 10) (by kernel_rfl) (fun o ho K' hK => ?_) ?_
   ·simp only [zA, zB, zC, zD] at ho
    subst ho
    go_simp
    refine hK.out _ _ ?_ (fun hHeld => ?_)
    ·exact ⟨by go_simp, by go_simp, by go_simp, by go_simp⟩
    clear hK K'
    try simp only [yA, yB, yC]
    refine wpAnyH_ready (rs := [11]) (by kernel_rfl) (by simp) ?_
    refine held_step (i := 11) (by kernel_rfl) (fun o ho K' hK => ?_) ?_
    ·simp only [zA, zB, zC, zD] at ho
     subst ho
     go_simp
     go_at_call 91
     refine (HOR.out (cmpI x.1 y.1) (cmpI x.2 y.2) _ ?_).mono ?_
     ·exact two_ints _ _ _ _ (by go_simp) (by go_simp)
     rintro e w1 ⟨rfl, rfl⟩
     try go_simp
     refine hK.out _ _ ?_ (fun hHeld => ?_)
     ·exact ⟨by go_simp, by go_simp, by go_simp, by go_simp⟩
     clear hK K'
     try simp only [yA, yB, yC]
     refine wpAnyH_ready (rs := [12]) (by kernel_rfl) (by simp) ?_
     refine held_step (i := 12) (by kernel_rfl) (fun o ho K' hK => ?_) ?_
     ·simp only [zA, zB, zC, zD] at ho
      subst ho
      go_simp
      refine hK.out _ _ ?_ (fun hHeld => ?_)
      ·exact ⟨by go_simp, by go_simp, by go_simp, by go_simp⟩
      clear hK K'
      try simp only [yA, yB, yC]
      refine wpAnyH_done (by kernel_rfl) ?_ _
      try simp only [yA, yB, yC]
      go_wp2
      go_ret
      exact ⟨rfl, 1, _, by simp only [Go.Sort.alloc_eq_grow, Go.Sort.drew_grow, Go.Sort.grow_grow]; rfl⟩
     exact AllReadyH.nil
    exact AllReadyH.nil
   exact AllReadyH.nil
  exact AllReadyH.nil
 exact AllReadyH.nil
end Go.Proofs.YtiodjapdiflphaaGreatDoor
/- The library's functions that the program calls, as the shelf's contracts ask for them: the numbers of functions and types, field by field. -/
namespace Go.Proofs.YtiodjapdiflphaaGreatDoor
open Go.Shelf
def Tryz.sortO_ren : Go.Shelf.Ren := ⟨fun | 6 => 89 | 15 => 113 | 14 => 119 | 28 => 143 | 29 => 144 | 20 => 145 | 21 => 146 | 22 => 147 | 23 => 148 | 24 => 149 | 25 => 150 | 26 => 151 | 27 => 152 | 46 => 161 | 47 => 157 | 48 => 158 | 49 => 162 | 50 => 163 | 57 => 171 | n => n, fun | 22 => 46 | 24 => 84 | 25 => 163 | 3 => 3 | 39 => 101 | 0 => 0 | 53 => 224 | 55 => 226 | 4 => 4 | 46 => 217 | 45 => 216 | 50 => 221 | 5 => 5 | 9 => 9 | 66 => 234 | 70 => 238 | 76 => 249 | 77 => 41 | n => n, fun | n => n⟩
theorem Tryz.sortO : Go.Proofs.SlLaysF0.n6 Tryz.prog Tryz.sortO_ren := {
 mixed := by kernel_rfl
 f6 := ⟨Tryz.f89.name, by decide, Tryz.func89.trans (congrArg some (by kernel_rfl))⟩
 f14 := ⟨Tryz.f119.name, by decide, Tryz.func119.trans (congrArg some (by kernel_rfl))⟩
 f15 := Tryz.func113.trans (congrArg some (by kernel_rfl))
 f20 := ⟨Tryz.f145.name, by decide, Tryz.func145.trans (congrArg some (by kernel_rfl))⟩
 f21 := ⟨Tryz.f146.name, by decide, Tryz.func146.trans (congrArg some (by kernel_rfl))⟩
 f22 := ⟨Tryz.f147.name, by decide, Tryz.func147.trans (congrArg some (by kernel_rfl))⟩
 f23 := ⟨Tryz.f148.name, by decide, Tryz.func148.trans (congrArg some (by kernel_rfl))⟩
 f24 := ⟨Tryz.f149.name, by decide, Tryz.func149.trans (congrArg some (by kernel_rfl))⟩
 f25 := ⟨Tryz.f150.name, by decide, Tryz.func150.trans (congrArg some (by kernel_rfl))⟩
 f26 := ⟨Tryz.f151.name, by decide, Tryz.func151.trans (congrArg some (by kernel_rfl))⟩
 f27 := ⟨Tryz.f152.name, by decide, Tryz.func152.trans (congrArg some (by kernel_rfl))⟩
 f28 := Tryz.func143.trans (congrArg some (by kernel_rfl))
 f29 := Tryz.func144.trans (congrArg some (by kernel_rfl))
 f46 := ⟨Tryz.f161.name, by decide, Tryz.func161.trans (congrArg some (by kernel_rfl))⟩
 f47 := Tryz.func157.trans (congrArg some (by kernel_rfl))
 f48 := Tryz.func158.trans (congrArg some (by kernel_rfl))
 f49 := ⟨Tryz.f162.name, by decide, Tryz.func162.trans (congrArg some (by kernel_rfl))⟩
 f50 := ⟨Tryz.f163.name, by decide, Tryz.func163.trans (congrArg some (by kernel_rfl))⟩
 f57 := ⟨Tryz.f171.name, by decide, Tryz.func171.trans (congrArg some (by kernel_rfl))⟩
 t0 := Tryz.underlying0
 a0 := Tryz.isAgg0
 z0 := Tryz.sizeOf0
 v0 := Tryz.zeroValue0
 t3 := Tryz.underlying3
 a3 := Tryz.isAgg3
 z3 := Tryz.sizeOf3
 v3 := Tryz.zeroValue3
 t4 := Tryz.underlying4
 a4 := Tryz.isAgg4
 z4 := Tryz.sizeOf4
 v4 := Tryz.zeroValue4
 t5 := Tryz.underlying5
 a5 := Tryz.isAgg5
 z5 := Tryz.sizeOf5
 v5 := Tryz.zeroValue5
 t9 := Tryz.underlying9
 a9 := Tryz.isAgg9
 z9 := Tryz.sizeOf9
 v9 := Tryz.zeroValue9
 t22 := Tryz.underlying46
 a22 := Tryz.isAgg46
 z22 := Tryz.sizeOf46
 v22 := Tryz.zeroValue46
 t25 := Tryz.underlying163
 a25 := Tryz.isAgg163
 z25 := Tryz.sizeOf163
 v25 := Tryz.zeroValue163
 t39 := Tryz.underlying101
 a39 := Tryz.isAgg101
 z39 := Tryz.sizeOf101
 v39 := Tryz.zeroValue101
 t45 := Tryz.underlying216
 a45 := Tryz.isAgg216
 z45 := Tryz.sizeOf216
 v45 := Tryz.zeroValue216
 t46 := Tryz.underlying217
 a46 := Tryz.isAgg217
 z46 := Tryz.sizeOf217
 v46 := Tryz.zeroValue217
 t50 := Tryz.underlying221
 a50 := Tryz.isAgg221
 z50 := Tryz.sizeOf221
 v50 := Tryz.zeroValue221
 t53 := Tryz.underlying224
 a53 := Tryz.isAgg224
 z53 := Tryz.sizeOf224
 v53 := Tryz.zeroValue224
 t55 := Tryz.underlying226
 a55 := Tryz.isAgg226
 z55 := Tryz.sizeOf226
 v55 := Tryz.zeroValue226
 t66 := Tryz.underlying234
 a66 := Tryz.isAgg234
 z66 := Tryz.sizeOf234
 v66 := Tryz.zeroValue234
 t70 := Tryz.underlying238
 a70 := Tryz.isAgg238
 z70 := Tryz.sizeOf238
 v70 := Tryz.zeroValue238
 t76 := Tryz.underlying249
 a76 := Tryz.isAgg249
 z76 := Tryz.sizeOf249
 v76 := Tryz.zeroValue249
 t77 := Tryz.underlying41
 a77 := Tryz.isAgg41
 z77 := Tryz.sizeOf41
 v77 := Tryz.zeroValue41 }
def Tryz.sortI_ren : Go.Shelf.Ren := ⟨fun | 189 => 72 | 125 => 113 | 257 => 112 | 128 => 143 | 129 => 144 | 294 => 134 | 295 => 135 | 296 => 136 | 297 => 137 | 298 => 138 | 299 => 139 | 216 => 140 | 300 => 141 | 301 => 142 | 328 => 156 | 329 => 157 | 330 => 158 | 331 => 159 | 332 => 160 | 215 => 120 | 343 => 170 | n => n, fun | 28 => 63 | 3 => 3 | 46 => 101 | 0 => 0 | 51 => 224 | 53 => 226 | 4 => 4 | 183 => 217 | 182 => 216 | 131 => 221 | 5 => 5 | 9 => 9 | 218 => 234 | 222 => 238 | 228 => 249 | 229 => 41 | n => n, fun | n => n⟩
theorem Tryz.sortI : Go.Proofs.Lays.n189 Tryz.prog Tryz.sortI_ren := {
 mixed := by kernel_rfl
 f125 := Tryz.func113.trans (congrArg some (by kernel_rfl))
 f128 := Tryz.func143.trans (congrArg some (by kernel_rfl))
 f129 := Tryz.func144.trans (congrArg some (by kernel_rfl))
 f189 := Tryz.func72.trans (congrArg some (by kernel_rfl))
 f215 := Tryz.func120.trans (congrArg some (by kernel_rfl))
 f216 := Tryz.func140.trans (congrArg some (by kernel_rfl))
 f257 := Tryz.func112.trans (congrArg some (by kernel_rfl))
 f294 := Tryz.func134.trans (congrArg some (by kernel_rfl))
 f295 := Tryz.func135.trans (congrArg some (by kernel_rfl))
 f296 := Tryz.func136.trans (congrArg some (by kernel_rfl))
 f297 := Tryz.func137.trans (congrArg some (by kernel_rfl))
 f298 := Tryz.func138.trans (congrArg some (by kernel_rfl))
 f299 := Tryz.func139.trans (congrArg some (by kernel_rfl))
 f300 := Tryz.func141.trans (congrArg some (by kernel_rfl))
 f301 := Tryz.func142.trans (congrArg some (by kernel_rfl))
 f328 := Tryz.func156.trans (congrArg some (by kernel_rfl))
 f329 := Tryz.func157.trans (congrArg some (by kernel_rfl))
 f330 := Tryz.func158.trans (congrArg some (by kernel_rfl))
 f331 := Tryz.func159.trans (congrArg some (by kernel_rfl))
 f332 := Tryz.func160.trans (congrArg some (by kernel_rfl))
 f343 := Tryz.func170.trans (congrArg some (by kernel_rfl))
 t0 := Tryz.underlying0
 a0 := Tryz.isAgg0
 z0 := Tryz.sizeOf0
 v0 := Tryz.zeroValue0
 t3 := Tryz.underlying3
 a3 := Tryz.isAgg3
 z3 := Tryz.sizeOf3
 v3 := Tryz.zeroValue3
 t4 := Tryz.underlying4
 a4 := Tryz.isAgg4
 z4 := Tryz.sizeOf4
 v4 := Tryz.zeroValue4
 t5 := Tryz.underlying5
 a5 := Tryz.isAgg5
 z5 := Tryz.sizeOf5
 v5 := Tryz.zeroValue5
 t9 := Tryz.underlying9
 a9 := Tryz.isAgg9
 z9 := Tryz.sizeOf9
 v9 := Tryz.zeroValue9
 t28 := Tryz.underlying63
 a28 := Tryz.isAgg63
 z28 := Tryz.sizeOf63
 v28 := Tryz.zeroValue63
 t46 := Tryz.underlying101
 a46 := Tryz.isAgg101
 z46 := Tryz.sizeOf101
 v46 := Tryz.zeroValue101
 t51 := Tryz.underlying224
 a51 := Tryz.isAgg224
 z51 := Tryz.sizeOf224
 v51 := Tryz.zeroValue224
 t53 := Tryz.underlying226
 a53 := Tryz.isAgg226
 z53 := Tryz.sizeOf226
 v53 := Tryz.zeroValue226
 t131 := Tryz.underlying221
 a131 := Tryz.isAgg221
 z131 := Tryz.sizeOf221
 v131 := Tryz.zeroValue221
 t182 := Tryz.underlying216
 a182 := Tryz.isAgg216
 z182 := Tryz.sizeOf216
 v182 := Tryz.zeroValue216
 t183 := Tryz.underlying217
 a183 := Tryz.isAgg217
 z183 := Tryz.sizeOf217
 v183 := Tryz.zeroValue217
 t218 := Tryz.underlying234
 a218 := Tryz.isAgg234
 z218 := Tryz.sizeOf234
 v218 := Tryz.zeroValue234
 t222 := Tryz.underlying238
 a222 := Tryz.isAgg238
 z222 := Tryz.sizeOf238
 v222 := Tryz.zeroValue238
 t228 := Tryz.underlying249
 a228 := Tryz.isAgg249
 z228 := Tryz.sizeOf249
 v228 := Tryz.zeroValue249
 t229 := Tryz.underlying41
 a229 := Tryz.isAgg41
 z229 := Tryz.sizeOf41
 v229 := Tryz.zeroValue41 }
end Go.Proofs.YtiodjapdiflphaaGreatDoor
/- slices.SortFunc at origins. -/
namespace Go.Proofs.YtiodjapdiflphaaGreatDoor
open Go.Shelf Go.RowKit Go.Lib Go.Sort
def ltO (a b : Org) : Bool := decide (a.1 < b.1) || (decide (a.1 = b.1) && decide (a.2 < b.2))
theorem ltOf_cmpO (x y : Org) : ltOf cmpO x y = ltO x y := by
 unfold ltOf cmpO ltO orI orI cmpI
 by_cases h1 : x.1 < y.1
 ·simp [h1]
 ·by_cases h2 : y.1 < x.1
  ·simp [h1, h2]; intro h; omega
  ·have h3 : x.1 = y.1 := by omega
   by_cases h4 : x.2 < y.2
   ·simp [h3, h4]
   ·by_cases h5 : y.2 < x.2
    ·simp [h3, h4, h5]
    ·simp [h3, h4, h5, orI]
theorem swoO : SWO (ltOf cmpO) where
 irrefl x := by rw [ltOf_cmpO]; simp [ltO]
 trans x y z h1 h2 := by rw [ltOf_cmpO] at *; simp [ltO] at *; omega
 ntrans x y z h1 h2 := by rw [ltOf_cmpO] at *; simp [ltO] at *; omega
theorem touch_sortWorldK (enc : Org → List Value) (k : Nat) (w : World) (g off m : Nat) (dk : Array Org) (os : Array Obj) : Touch (· = g) w (sortWorldK enc k w g off m dk os) := by
 refine ⟨rfl, rfl, rfl, ?_, fun k o hk hn => ?_⟩
 ·simp [sortWorldK, grow, putRowK, putRow, mapBlock, Sort.ahead]
 ·have hlt := (Array.getElem?_eq_some_iff.1 hk).1
  simp only [sortWorldK, grow, putRowK, putRow, mapBlock, Sort.ahead]
  rw [Array.getElem?_append_left (by simpa using hlt), Array.getElem?_modify, if_neg (fun e => hn e.symm)]
  exact hk
theorem flatK_pairs (xs : List Org) : flatK pairC 2 xs.toArray = (xs.flatMap pairC).toArray := by
 refine ext_get! (by rw [size_flatK, List.size_toArray, List.size_toArray, pairs_len]) fun t ht => ?_
 have ht' : t < xs.length * 2 := by simpa using ht
 have hq : t / 2 < xs.length := by omega
 have hm : t % 2 < 2 := Nat.mod_lt _ (by decide)
 rw [get_flatK _ _ _ _ (by simpa using ht')]
 have h1 : (xs.toArray)[t / 2]! = xs[t / 2] := by simp [hq]
 rw [h1]
 have h2 := flatMap_at (x := xs[t / 2]) pairC 2 (fun _ => rfl) xs (t / 2) (t % 2) (by simp) hm
 rw [show t / 2 * 2 + t % 2 = t by omega] at h2
 have h3 : ((xs.flatMap pairC).toArray)[t]! = ((xs.flatMap pairC)[t]?).getD default := by simp
 rw [h3, h2]
 simp
theorem enters_could1 : ∀ args w, (callFunc 90 args).run Tryz.prog w = .ok (.enter 90 args) w := enters_of Tryz.func90 (by kernel_rfl) rfl
theorem sortO_some (xs : List Org) (base g cap : Nat) (w : World) (hown : w.ownsRow base 84 2 (.slice (some ⟨g, 0, none⟩) xs.length cap) xs.length (xs.flatMap pairC)) (hl : xs.length ≤ 1000) (hgw : g < w.heap.size) :
  Calls Tryz.prog 89 #[.slice (some ⟨g, 0, none⟩) xs.length cap, .func (.func 90) #[] #[]] w fun e w' =>
   e = .returned (.tuple #[]) ∧ Touch (· = g) w w' ∧ ∃ ys : List Org, ys.Perm xs ∧ ys.Pairwise (fun a b => ltO b a = false) ∧ PairsAt w' (.slice (some ⟨g, 0, none⟩) xs.length cap) ys := by
 have hH : HoldsK pairC 2 w g 0 xs.toArray := by
  unfold HoldsK
  rw [flatK_pairs]
  intro j hj
  have hj' : j < (xs.flatMap pairC).length := by simpa using hj
  have hj2 : j < xs.length * 2 := by rw [← pairs_len]; exact hj'
  rw [Nat.zero_add]
  refine ⟨?_, hown.frozenAt j⟩
  rw [hown.cellAt j (by simpa using hj2)]
  have h1 : (xs.flatMap pairC).toArray[j]! = (xs.flatMap pairC)[j] := getElem!_pos _ j (by simpa using hj')
  rw [h1, List.getElem?_eq_getElem hj']
  rfl
 have hcmp : CmpLays Tryz.prog 90 #[] pairC 2 cmpO g 0 xs.toArray.size w := fun m os dk _ x y => could1_any x y _
 have hcon := AnyQ.slices_SortFunc Tryz.sortO 2 (fun w => Tryz.isAgg84 w) (fun w => Tryz.sizeOf84 w) pairC (fun _ => rfl) (fun x v hv => pairs_one [x] v (by simpa using hv)) cmpO swoO 90 #[] g 0 cap xs.toArray w enters_could1 hcmp hH hgw (by simp; omega)
 rw [show xs.toArray.size = xs.length by simp] at hcon
 refine hcon.mono ?_
 rintro e w' ⟨rfl, d', n, os, hp, hs, rfl⟩
 have hd : d'.size = xs.length := by rw [hp.1]; simp
 refine ⟨rfl, touch_sortWorldK _ _ _ _ _ _ _ _, d'.toList, ?_, ?_, ?_⟩
 ·have := hp.2.2
  have e1 : d'.extract 0 xs.length = d' := by rw [← hd, Array.extract_size]
  have e2 : xs.toArray.extract 0 xs.length = xs.toArray := by simp
  rw [e1, e2] at this
  exact this
 ·rw [List.pairwise_iff_getElem]
  intro i j hi hj hij
  simp only [Array.length_toList] at hi hj
  have := hs i j (Nat.zero_le _) hij (by omega)
  rw [ltOf_cmpO, getElem!_pos d' i hi, getElem!_pos d' j hj] at this
  simpa using this
 ·have hHw := holdsK_sortWorldK_c pairC 2 w g 0 xs.toArray d' n os hH hgw (by simp [hd])
  unfold HoldsK at hHw
  rw [show d' = d'.toList.toArray by simp, flatK_pairs] at hHw
  have hdl : d'.toList.length = xs.length := by simpa using hd
  obtain ⟨a, c, hv, r1, r2, r0, r3⟩ := RowAt.of_owns hown
  cases hv
  refine ⟨_, cap, by rw [hdl], by rw [hdl]; exact r1, r2, (fun h => by cases h), fun j u hj => ⟨g, 0, rfl, ?_⟩⟩
  have hjl := (List.getElem?_eq_some_iff.1 hj).1
  have := (hHw j (by simpa using hjl)).1
  rw [this]
  obtain ⟨h1, rfl⟩ := List.getElem?_eq_some_iff.1 hj
  have h2 : (d'.toList.flatMap pairC).toArray[j]! = (d'.toList.flatMap pairC)[j] := getElem!_pos _ j (by simpa using h1)
  rw [h2]
  rfl
theorem sortO_none (p : Option Addr) (c : Nat) (w : World) : Calls Tryz.prog 89 #[.slice p 0 c, .func (.func 90) #[] #[]] w fun e w' => e = .returned (.tuple #[]) ∧ w' = w :=
 AnyF.slices_SortFunc_none Tryz.sortO p c _ w
end Go.Proofs.YtiodjapdiflphaaGreatDoor
