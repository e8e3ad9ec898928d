/- The library's small functions at integers and origins: Compare, Or, Index, Contains; could's closure. -/
import Derived.Test.YtdmdabhdcpjkiaaGreatDoorStateb
import Derived.Test.YtdmdabhdcpjkiaaGreatDoorTwoi
import Derived.Sort.Grow
import Derived.Shelf.SlLaysF0
import Derived.Shelf.Sort.Plain
import Derived.Test.YtdmdabhdcpjkiaaGreatDoorProg
import Derived.Shelf.SlSortCmp.WholeK
import Derived.Shelf.SlSortCmp.NoneTotal
namespace Go.Proofs.YtdmdabhdcpjkiaaGreatDoor
open Go.RowKit
def cmpI (x y : Int) : Int := if x < y then -1 else if y < x then 1 else 0
def orI : List Int → Int
 | [] => 0
 | x :: l => if x = 0 then orI l else x
theorem isNaN_any (n : Int) (w : World) :
  Calls Tryz.prog 137 #[.int .i64 n] w fun e w' => e = .returned (.bool false) ∧ w = w' := by
 go_enter Tryz.func137, Tryz.ntmps137
 go_wp2
 go_ret
 simp
theorem compare_any (x y : Int) (w : World) :
  Calls Tryz.prog 105 #[.int .i64 x, .int .i64 y] w fun e w' => e = .returned (.int .i64 (cmpI x y)) ∧ w = w' := by
 unfold cmpI
 by_cases h1 : x < y
 ·rw [if_pos h1]
  go_enter Tryz.func105, Tryz.ntmps105
  go_wp2_with (go_at_call 137; refine (isNaN_any _ _).mono ?_; rintro e w' ⟨rfl, rfl⟩)
  go_ret
  simp
 ·by_cases h2 : y < x
  ·rw [if_neg h1, if_pos h2]
   go_enter Tryz.func105, Tryz.ntmps105
   go_wp2_with (go_at_call 137; refine (isNaN_any _ _).mono ?_; rintro e w' ⟨rfl, rfl⟩)
   go_ret
   simp
  ·rw [if_neg h1, if_neg h2]
   go_enter Tryz.func105, Tryz.ntmps105
   go_wp2_with (go_at_call 137; refine (isNaN_any _ _).mono ?_; rintro e w' ⟨rfl, rfl⟩)
   go_ret
   simp
theorem orI_take {xs : List Int} {k : Nat} (h : ∀ x, x ∈ xs.take k → x = 0) : orI xs = orI (xs.drop k) := by
 induction k generalizing xs with
 | zero => rfl
 | succ k ih =>
  cases xs with
  | nil => rfl
  | cons x l =>
   have h0 : x = 0 := h x (by simp)
   simp only [orI, h0, if_true, List.drop_succ_cons]
   exact ih (fun y hy => h y (by simp [hy]))
theorem orI_at {xs : List Int} {k : Nat} {x : Int} (hx : xs[k]? = some x) (h : ∀ y, y ∈ xs.take k → y = 0) (hn : x ≠ 0) : orI xs = x := by
 rw [orI_take h]
 obtain ⟨hk, rfl⟩ := List.getElem?_eq_some_iff.1 hx
 rw [List.drop_eq_getElem_cons hk]
 simp [orI, hn]
theorem or_any (v : Value) (xs : List Int) (w : World) (hv : IntsAt w v xs) :
  Calls Tryz.prog 104 #[v] w fun e w' => e = .returned (.int .i64 (orI xs)) ∧ w = w' := by
 obtain ⟨a, c, rfl, h1, h2, h3⟩ := hv.open
 go_enter Tryz.func104, Tryz.ntmps104
 go_wp2
 go_loop [8] (fun i => ∃ k : Nat, k ≤ xs.length ∧ i = .int .i64 k ∧ Hid (∀ y, y ∈ xs.take k → y = 0)) (fun i => xs.length - (intOf i).toNat)
 case atStart => exact ⟨0, Nat.zero_le _, rfl, by simp [Hid]⟩
 case round =>
  obtain ⟨k, hk, rfl, hz⟩ := hrel
  by_cases hlt : k < xs.length
  ·obtain ⟨b, o, x, rfl, hxk, hc⟩ := h3 k hlt
   clear h3
   by_cases h0 : x = 0
   ·have hb : (x != 0) = false := by simp [h0]
    have h0' := Lib.hid h0
    clear h0
    go_wp2
    go_round
    case rel => exact ⟨k + 1, by omega, by go_num, by
     unfold Hid; intro y hy
     rw [List.take_add_one, hxk.out] at hy
     rcases List.mem_append.1 hy with hy | hy
     ·exact hz.out y hy
     ·simp at hy; rw [hy]; exact h0'.out⟩
    case measure => simp [intOf]; omega
   ·have hb : (x != 0) = true := by simp [h0]
    go_wp2
    go_ret
    exact ⟨by rw [orI_at hxk.out hz.out h0]; rfl, rfl⟩
  ·go_wp2
   go_ret
   exact ⟨by have h := orI_take hz.out; rw [List.drop_of_length_le (by omega)] at h; rw [h]; rfl, rfl⟩
def IdxIn (b : Bool) (w : World) (e : Ending) (w' : World) : Prop := ∃ n : Int, e = .returned (.int .i64 n) ∧ decide (0 ≤ n) = b ∧ w = w'
theorem index_any (v : Value) (xs : List Int) (y : Int) (w : World) (hv : IntsAt w v xs) :
  Calls Tryz.prog 128 #[v, .int .i64 y] w (IdxIn (decide (y ∈ xs)) w) := by
 obtain ⟨a, c, rfl, h1, h2, h3⟩ := hv.open
 go_enter Tryz.func128, Tryz.ntmps128
 go_wp2
 go_loop [8] (fun i => ∃ k : Nat, k ≤ xs.length ∧ i = .int .i64 k ∧ Hid (y ∉ xs.take k)) (fun i => xs.length - (intOf i).toNat)
 case atStart => exact ⟨0, Nat.zero_le _, rfl, by simp [Hid]⟩
 case round =>
  obtain ⟨k, hk, rfl, hno⟩ := hrel
  by_cases hlt : k < xs.length
  ·obtain ⟨b, o, x, rfl, hxk, hc⟩ := h3 k hlt
   clear h3 hv
   by_cases hxy : y = x
   ·subst hxy
    have hfin : Hid (y ∈ xs) := List.mem_of_getElem? hxk.out
    go_wp2
    go_ret
    exact ⟨_, rfl, by have h := hfin.out; simp [h], rfl⟩
   ·have hb : (y == x) = false := by simpa using hxy
    have hxy' := Lib.hid hxy
    clear hxy
    go_wp2
    go_round
    case rel => exact ⟨k + 1, by omega, by go_num, by
     unfold Hid; rw [List.take_add_one, hxk.out]; simp only [Option.toList_some, List.mem_append, List.mem_singleton, not_or]; exact ⟨hno.out, hxy'.out⟩⟩
    case measure => simp [intOf]; omega
  ·have hfin : Hid (¬ y ∈ xs) := by
    have h := hno.out; rw [List.take_of_length_le (by omega)] at h; exact h
   go_wp2
   go_ret
   exact ⟨_, rfl, by have h := hfin.out; simp [h], rfl⟩
theorem contains_any (v : Value) (xs : List Int) (y : Int) (w : World) (hv : IntsAt w v xs) :
  Calls Tryz.prog 84 #[v, .int .i64 y] w fun e w' => e = .returned (.bool (decide (y ∈ xs))) ∧ w = w' := by
 go_enter Tryz.func84, Tryz.ntmps84
 go_wp2_with (go_at_call 128; refine (index_any v xs y _ hv).mono ?_; rintro e w' ⟨n, rfl, hn, rfl⟩)
 go_ret
 exact ⟨by simp, rfl⟩
theorem two_fields {l : List Field} {n1 n2 : String} {t1 t2 o1 o2 : Nat} (h : (l.map fun f => (f.name, f.type, f.offset)) = [(n1, t1, o1), (n2, t2, o2)]) : ∃ f1 f2 : Field, l = [f1, f2] ∧ f1.name = n1 ∧ f1.type = t1 ∧ f1.offset = o1 ∧ f2.name = n2 ∧ f2.type = t2 ∧ f2.offset = o2 := by
 match l, h with
 | [f1, f2], h => simp at h; exact ⟨f1, f2, rfl, h.1.1, h.1.2.1, h.1.2.2, h.2.1, h.2.2.1, h.2.2.2⟩
theorem org_fields : ((Tryz.prog.fieldsOf 93).toList.map fun f => (f.name, f.type, f.offset)) = [("River", 3, 0), ("Year", 3, 1)] := by kernel_rfl
theorem org_under : Tryz.prog.underlying 93 = some (.struct (Tryz.prog.fieldsOf 93)) := by kernel_rfl
theorem org_held : Tryz.prog.stoodInHeld 93 = false := by kernel_rfl
theorem org_guard : Tryz.prog.eqGuardType Tryz.prog.depth 93 = false := by kernel_rfl
theorem org_equal (a b c d : Int) (w : World) : (Op.equalIn 10000 93 (.agg #[.int .i64 a, .int .i64 b]) (.agg #[.int .i64 c, .int .i64 d])).run Tryz.prog w = .ok (a == c && b == d) w := by
 obtain ⟨f1, f2, hf, n1, t1, o1, n2, t2, o2⟩ := two_fields org_fields
 have hu := Tryz.underlying3
 rw [run_equalIn_struct w 9999 _ _ _ org_under org_held, hf]
 cases h1 : (a == c) <;> cases h2 : (b == d) <;> simp [Op.eqFields, go_sem, n1, t1, o1, n2, t2, o2, hu, h1, h2]
theorem org_neq (a b c d : Int) (w : World) : (binOp .neq 93 (.agg #[.int .i64 a, .int .i64 b]) (.agg #[.int .i64 c, .int .i64 d])).run Tryz.prog w = .ok (.bool (!(a == c && b == d))) w := by
 rw [run_neq_struct, org_equal]; rfl
theorem org_eql (a b c d : Int) (w : World) : (binOp .eql 93 (.agg #[.int .i64 a, .int .i64 b]) (.agg #[.int .i64 c, .int .i64 d])).run Tryz.prog w = .ok (.bool (a == c && b == d)) w := by
 rw [run_eql_struct, org_equal]; rfl
set_option maxRecDepth 100000 in
set_option maxHeartbeats 1000000 in
theorem indexO_any (v : Value) (xs : List Org) (y : Org) (w : World) (hv : PairsAt w v xs) :
  Calls Tryz.prog 135 #[v, orgV y] w fun e w' => ∃ n : Int, e = .returned (.int .i64 n) ∧ decide (0 ≤ n) = decide (y ∈ xs) ∧ Ext w w' := by
 obtain ⟨a, c, rfl, h1, h2, h3⟩ := hv.open
 have HE := Lib.hid (fun (a b c d : Int) (w : World) => org_eql a b c d w)
 have hx0 : Ext w (w.alloc (.cells #[.int .i64 y.1, .int .i64 y.2] 93)) := (Ext.refl w).alloc _
 unfold orgV
 go_enter Tryz.func135, Tryz.ntmps135
 go_wp2
 go_loopw [8] (fun i wr => ∃ k : Nat, k ≤ xs.length ∧ i = .int .i64 k ∧ Hid (y ∉ xs.take k) ∧ Ext (w.alloc (.cells #[.int .i64 y.1, .int .i64 y.2] 93)) wr) (fun i _ => xs.length - (intOf i).toNat)
 case atStart => exact ⟨0, Nat.zero_le _, rfl, by simp [Hid], Ext.refl _⟩
 case round =>
  obtain ⟨k, hk, rfl, hno, hxr⟩ := hrel
  by_cases hlt : k < xs.length
  ·obtain ⟨b, o, x, rfl, hxk, hc0, hc1⟩ := h3 k hlt
   have t1 : decide ((k : Int) < (xs.length : Int)) = true := by simpa using hlt
   have i1 : (0 : Int) ≤ (k : Int) := by omega
   have i2 : (k : Int) < (xs.length : Int) := by omega
   have q0 := (hx0.trans hxr).cell hc0
   have q1 := (hx0.trans hxr).cell hc1
   have p0 := hxr.cell (a := ⟨w.heap.size, 0, none⟩) (v := .int .i64 y.1) (by go_simp)
   have p1 := hxr.cell (a := ⟨w.heap.size, 1, none⟩) (v := .int .i64 y.2) (by go_simp)
   have HX := Lib.hid (hx0.trans hxr)
   have HXR := Lib.hid hxr
   clear h3 hv hc0 hc1 hxr hx0
   have hq := org_eql y.1 y.2 x.1 x.2
   by_cases hxy : y = x
   ·have hfin : Hid (y ∈ xs) := hxy ▸ List.mem_of_getElem? hxk.out
    have hb : (y.1 == x.1 && y.2 == x.2) = true := by rw [hxy]; simp
    rw [hb] at hq
    clear hxy hb
    go_upto_region 4 with fail
    go_quiet (fail)
    go_wp2
    go_ret
    exact ⟨_, rfl, by have h := hfin.out; simp [h], HX.out.drewN _⟩
   ·have hb : (y.1 == x.1 && y.2 == x.2) = false := by
     rw [← Bool.not_eq_true, Bool.and_eq_true, beq_iff_eq, beq_iff_eq]
     exact fun h => hxy (Prod.ext h.1 h.2)
    rw [hb] at hq
    have hxy' := Lib.hid hxy
    clear hxy hb
    go_upto_region 4 with fail
    go_quiet (fail)
    go_wp2
    exact ⟨⟨k + 1, by omega, by go_num, by
     unfold Hid; rw [List.take_add_one, hxk.out]; simp only [Option.toList_some, List.mem_append, List.mem_singleton, not_or]; exact ⟨hno.out, hxy'.out⟩, HXR.out.drewN _⟩, by simp [intOf]; omega⟩
  ·have hfin : Hid (¬ y ∈ xs) := by
    have h := hno.out; rw [List.take_of_length_le (by omega)] at h; exact h
   have t1 : decide ((k : Int) < (xs.length : Int)) = false := by simpa using hlt
   go_wp2
   go_ret
   exact ⟨_, rfl, by have h := hfin.out; simp [h], hx0.trans hxr⟩
theorem containsO_any (v : Value) (xs : List Org) (y : Org) (w : World) (hv : PairsAt w v xs) :
  Calls Tryz.prog 101 #[v, orgV y] w fun e w' => e = .returned (.bool (decide (y ∈ xs))) ∧ Ext w w' := by
 have HI := Lib.hid (fun w1 (h : Ext w w1) => indexO_any v xs y w1 (hv.ext h))
 obtain ⟨a, c, rfl, h1, h2, h3⟩ := hv.open
 have HX := Lib.hid ((Ext.refl w).alloc (.cells #[.int .i64 y.1, .int .i64 y.2] 93))
 clear hv h3
 unfold orgV at HI ⊢
 go_enter Tryz.func101, Tryz.ntmps101
 go_wp2_with (go_at_call 135; refine (HI.out _ HX.out).mono ?_; rintro e w' ⟨n, rfl, hn, hx'⟩)
 go_ret
 exact ⟨by simp, HX.out.trans hx'⟩
/-! ### could's closure -/
def cmpO (x y : Org) : Int := orI [cmpI x.1 y.1, cmpI x.2 y.2]
set_option maxRecDepth 100000 in
set_option maxHeartbeats 1000000 in
theorem could1_any (x y : Org) (w : World) : Calls Tryz.prog 103 #[orgV x, orgV y] w fun e w' => e = .returned (.int .i64 (cmpO x y)) ∧ ∃ q os', w' = Go.Sort.grow (w.drewN q) os' := by
 have hmix : Tryz.prog.follows .mixedOrders = true := by kernel_rfl
 have HOR := Lib.hid (fun (c d : Int) (W : World) (hi : IntsAt W (.slice (some ⟨w.heap.size + 2, 0, none⟩) 2 2) [c, d]) => or_any (.slice (some ⟨w.heap.size + 2, 0, none⟩) 2 2) [c, d] W hi)
 unfold orgV cmpO
 go_enter Tryz.func103, Tryz.ntmps103
 go_upto_region 1 with fail
 refine wp_region_held_drew (S := (fun w' => w'.cell? ⟨w.heap.size, 0, none⟩ = some (.int .i64 x.1) ∧ w'.cell? ⟨w.heap.size, 1, none⟩ = some (.int .i64 x.2) ∧ w'.cell? ⟨w.heap.size + 1, 0, none⟩ = some (.int .i64 y.1) ∧ w'.cell? ⟨w.heap.size + 1, 1, none⟩ = some (.int .i64 y.2))) (by kernel_rfl) ?_ (fun hHeld => ?_)
 ·exact ⟨by go_simp, by go_simp, by go_simp, by go_simp⟩
 refine hTk (i := 0) (d := some 5) (v := ?_) (fun o ho => ?_) hHeld ?_
 rotate_left
 ·simp only [zA, zB, zD] at ho
  subst ho
  refine ⟨by rfl, fun w hSw => ?_⟩
  (try dsimp only at hSw)
  go_simp
  try with_reducible rfl
 try simp only [Act.put, yA, yB, yC]
 refine hTk (i := 1) (d := some 6) (v := ?_) (fun o ho => ?_) hHeld ?_
 rotate_left
 ·simp only [zA, zB, zC, zD] at ho
  subst ho
  refine ⟨by rfl, fun w hSw => ?_⟩
  (try dsimp only at hSw)
  go_simp
  try with_reducible rfl
 try simp only [Act.put, yA, yB, yC]
 refine hTk (i := 2) (d := some 7) (v := ?_) (fun o ho => ?_) hHeld ?_
 rotate_left
 ·simp only [zA, zB, zC, zD] at ho
  subst ho
  refine ⟨by rfl, fun w hSw => ?_⟩
  (try dsimp only at hSw)
  go_simp
  try with_reducible rfl
 try simp only [Act.put, yA, yB, yC]
 refine hTk (i := 3) (d := some 8) (v := ?_) (fun o ho => ?_) hHeld ?_
 rotate_left
 ·simp only [zA, zB, zC, zD] at ho
  subst ho
  refine ⟨by rfl, fun w hSw => ?_⟩
  (try dsimp only at hSw)
  go_simp
  try with_reducible rfl
 try simp only [Act.put, yA, yB, yC]
 refine hTk (i := 5) (d := some 10) (v := ?_) (fun o ho => ?_) hHeld ?_
 rotate_left
 ·simp only [zA, zB, zC, zD] at ho
  subst ho
  refine ⟨by rfl, fun w hSw => ?_⟩
  (try dsimp only at hSw)
  go_simp
  try with_reducible rfl
 try simp only [Act.put, yA, yB, yC]
 refine hTk (i := 6) (d := some 11) (v := ?_) (fun o ho => ?_) hHeld ?_
 rotate_left
 ·simp only [zA, zB, zC, zD] at ho
  subst ho
  refine ⟨by rfl, fun w hSw => ?_⟩
  (try dsimp only at hSw)
  go_simp
  try with_reducible rfl
 try simp only [Act.put, yA, yB, yC]
 refine hTk (i := 7) (d := some 12) (v := ?_) (fun o ho => ?_) hHeld ?_
 rotate_left
 ·simp only [zA, zB, zC, zD] at ho
  subst ho
  refine ⟨by rfl, fun w hSw => ?_⟩
  (try dsimp only at hSw)
  go_simp
  try with_reducible rfl
 try simp only [Act.put, yA, yB, yC]
 refine hTk (i := 8) (d := some 13) (v := ?_) (fun o ho => ?_) hHeld ?_
 rotate_left
 ·simp only [zA, zB, zC, zD] at ho
  subst ho
  refine ⟨by rfl, fun w hSw => ?_⟩
  (try dsimp only at hSw)
  go_simp
  try with_reducible rfl
 try simp only [Act.put, yA, yB, yC]
 refine wpAnyH_ready (rs := [4]) (by kernel_rfl) (by simp) ?_
 refine held_step (i := 4) (by kernel_rfl) (fun o ho K' hK => ?_) ?_
 ·simp only [zA, zB, zC, zD] at ho
  subst ho
  go_simp
  go_at_call 105
  refine (compare_any _ _ _).mono ?_
  rintro e w1 ⟨rfl, rfl⟩
  try go_simp
  refine hK.out _ _ ?_ (fun hHeld => ?_)
  ·exact ⟨by go_simp, by go_simp, by go_simp, by go_simp⟩
  clear hK K'
  try simp only [yA, yB, yC]
  refine wpAnyH_ready (rs := [9]) (by kernel_rfl) (by simp) ?_
  refine held_step (i := 9) (by kernel_rfl) (fun o ho K' hK => ?_) ?_
  ·simp only [zA, zB, zC, zD] at ho
   subst ho
   go_simp
   go_at_call 105
   refine (compare_any _ _ _).mono ?_
   rintro e w1 ⟨rfl, rfl⟩
   try go_simp
   refine hK.out _ _ ?_ (fun hHeld => ?_)
   ·exact ⟨by go_simp, by go_simp, by go_simp, by go_simp⟩
   clear hK K'
   try simp only [yA, yB, yC]
   refine wpAnyH_ready (rs := [10]) (by kernel_rfl) (by simp) ?_
   refine held_step (i := 10) (by kernel_rfl) (fun o ho K' hK => ?_) ?_
   ·simp only [zA, zB, zC, zD] at ho
    subst ho
    go_simp
    refine hK.out _ _ ?_ (fun hHeld => ?_)
    ·exact ⟨by go_simp, by go_simp, by go_simp, by go_simp⟩
    clear hK K'
    try simp only [yA, yB, yC]
    refine wpAnyH_ready (rs := [11]) (by kernel_rfl) (by simp) ?_
    refine held_step (i := 11) (by kernel_rfl) (fun o ho K' hK => ?_) ?_
    ·simp only [zA, zB, zC, zD] at ho
     subst ho
     go_simp
     go_at_call 104
     refine (HOR.out (cmpI x.1 y.1) (cmpI x.2 y.2) _ ?_).mono ?_
     ·exact two_ints _ _ _ _ (by go_simp) (by go_simp)
     rintro e w1 ⟨rfl, rfl⟩
     try go_simp
     refine hK.out _ _ ?_ (fun hHeld => ?_)
     ·exact ⟨by go_simp, by go_simp, by go_simp, by go_simp⟩
     clear hK K'
     try simp only [yA, yB, yC]
     refine wpAnyH_ready (rs := [12]) (by kernel_rfl) (by simp) ?_
     refine held_step (i := 12) (by kernel_rfl) (fun o ho K' hK => ?_) ?_
     ·simp only [zA, zB, zC, zD] at ho
      subst ho
      go_simp
      refine hK.out _ _ ?_ (fun hHeld => ?_)
      ·exact ⟨by go_simp, by go_simp, by go_simp, by go_simp⟩
      clear hK K'
      try simp only [yA, yB, yC]
      refine wpAnyH_done (by kernel_rfl) ?_ _
      try simp only [yA, yB, yC]
      go_wp2
      go_ret
      exact ⟨rfl, 1, _, by simp only [Go.Sort.alloc_eq_grow, Go.Sort.drew_grow, Go.Sort.grow_grow]; rfl⟩
     exact AllReadyH.nil
    exact AllReadyH.nil
   exact AllReadyH.nil
  exact AllReadyH.nil
 exact AllReadyH.nil
end Go.Proofs.YtdmdabhdcpjkiaaGreatDoor
/- The library's functions that the program calls, as the shelf's contracts ask for them: the numbers of functions and types, field by field. -/
namespace Go.Proofs.YtdmdabhdcpjkiaaGreatDoor
open Go.Shelf
def Tryz.sortO_ren : Go.Shelf.Ren := ⟨fun | 6 => 102 | 15 => 130 | 14 => 136 | 28 => 162 | 29 => 163 | 20 => 164 | 21 => 165 | 22 => 166 | 23 => 167 | 24 => 168 | 25 => 169 | 26 => 170 | 27 => 171 | 46 => 183 | 47 => 179 | 48 => 180 | 49 => 184 | 50 => 185 | 57 => 197 | n => n, fun | 22 => 46 | 24 => 93 | 25 => 180 | 3 => 3 | 39 => 110 | 0 => 0 | 53 => 243 | 55 => 245 | 4 => 4 | 46 => 236 | 45 => 235 | 50 => 240 | 5 => 5 | 9 => 9 | 66 => 255 | 70 => 259 | 76 => 273 | 77 => 41 | n => n, fun | n => n⟩
theorem Tryz.sortO : Go.Proofs.SlLaysF0.n6 Tryz.prog Tryz.sortO_ren := {
 mixed := by kernel_rfl
 f6 := ⟨Tryz.f102.name, by decide, Tryz.func102.trans (congrArg some (by kernel_rfl))⟩
 f14 := ⟨Tryz.f136.name, by decide, Tryz.func136.trans (congrArg some (by kernel_rfl))⟩
 f15 := Tryz.func130.trans (congrArg some (by kernel_rfl))
 f20 := ⟨Tryz.f164.name, by decide, Tryz.func164.trans (congrArg some (by kernel_rfl))⟩
 f21 := ⟨Tryz.f165.name, by decide, Tryz.func165.trans (congrArg some (by kernel_rfl))⟩
 f22 := ⟨Tryz.f166.name, by decide, Tryz.func166.trans (congrArg some (by kernel_rfl))⟩
 f23 := ⟨Tryz.f167.name, by decide, Tryz.func167.trans (congrArg some (by kernel_rfl))⟩
 f24 := ⟨Tryz.f168.name, by decide, Tryz.func168.trans (congrArg some (by kernel_rfl))⟩
 f25 := ⟨Tryz.f169.name, by decide, Tryz.func169.trans (congrArg some (by kernel_rfl))⟩
 f26 := ⟨Tryz.f170.name, by decide, Tryz.func170.trans (congrArg some (by kernel_rfl))⟩
 f27 := ⟨Tryz.f171.name, by decide, Tryz.func171.trans (congrArg some (by kernel_rfl))⟩
 f28 := Tryz.func162.trans (congrArg some (by kernel_rfl))
 f29 := Tryz.func163.trans (congrArg some (by kernel_rfl))
 f46 := ⟨Tryz.f183.name, by decide, Tryz.func183.trans (congrArg some (by kernel_rfl))⟩
 f47 := Tryz.func179.trans (congrArg some (by kernel_rfl))
 f48 := Tryz.func180.trans (congrArg some (by kernel_rfl))
 f49 := ⟨Tryz.f184.name, by decide, Tryz.func184.trans (congrArg some (by kernel_rfl))⟩
 f50 := ⟨Tryz.f185.name, by decide, Tryz.func185.trans (congrArg some (by kernel_rfl))⟩
 f57 := ⟨Tryz.f197.name, by decide, Tryz.func197.trans (congrArg some (by kernel_rfl))⟩
 t0 := Tryz.underlying0
 a0 := Tryz.isAgg0
 z0 := Tryz.sizeOf0
 v0 := Tryz.zeroValue0
 t3 := Tryz.underlying3
 a3 := Tryz.isAgg3
 z3 := Tryz.sizeOf3
 v3 := Tryz.zeroValue3
 t4 := Tryz.underlying4
 a4 := Tryz.isAgg4
 z4 := Tryz.sizeOf4
 v4 := Tryz.zeroValue4
 t5 := Tryz.underlying5
 a5 := Tryz.isAgg5
 z5 := Tryz.sizeOf5
 v5 := Tryz.zeroValue5
 t9 := Tryz.underlying9
 a9 := Tryz.isAgg9
 z9 := Tryz.sizeOf9
 v9 := Tryz.zeroValue9
 t22 := Tryz.underlying46
 a22 := Tryz.isAgg46
 z22 := Tryz.sizeOf46
 v22 := Tryz.zeroValue46
 t25 := Tryz.underlying180
 a25 := Tryz.isAgg180
 z25 := Tryz.sizeOf180
 v25 := Tryz.zeroValue180
 t39 := Tryz.underlying110
 a39 := Tryz.isAgg110
 z39 := Tryz.sizeOf110
 v39 := Tryz.zeroValue110
 t45 := Tryz.underlying235
 a45 := Tryz.isAgg235
 z45 := Tryz.sizeOf235
 v45 := Tryz.zeroValue235
 t46 := Tryz.underlying236
 a46 := Tryz.isAgg236
 z46 := Tryz.sizeOf236
 v46 := Tryz.zeroValue236
 t50 := Tryz.underlying240
 a50 := Tryz.isAgg240
 z50 := Tryz.sizeOf240
 v50 := Tryz.zeroValue240
 t53 := Tryz.underlying243
 a53 := Tryz.isAgg243
 z53 := Tryz.sizeOf243
 v53 := Tryz.zeroValue243
 t55 := Tryz.underlying245
 a55 := Tryz.isAgg245
 z55 := Tryz.sizeOf245
 v55 := Tryz.zeroValue245
 t66 := Tryz.underlying255
 a66 := Tryz.isAgg255
 z66 := Tryz.sizeOf255
 v66 := Tryz.zeroValue255
 t70 := Tryz.underlying259
 a70 := Tryz.isAgg259
 z70 := Tryz.sizeOf259
 v70 := Tryz.zeroValue259
 t76 := Tryz.underlying273
 a76 := Tryz.isAgg273
 z76 := Tryz.sizeOf273
 v76 := Tryz.zeroValue273
 t77 := Tryz.underlying41
 a77 := Tryz.isAgg41
 z77 := Tryz.sizeOf41
 v77 := Tryz.zeroValue41 }
def Tryz.sortI_ren : Go.Shelf.Ren := ⟨fun | 189 => 85 | 125 => 130 | 257 => 129 | 128 => 162 | 129 => 163 | 294 => 153 | 295 => 154 | 296 => 155 | 297 => 156 | 298 => 157 | 299 => 158 | 216 => 159 | 300 => 160 | 301 => 161 | 328 => 178 | 329 => 179 | 330 => 180 | 331 => 181 | 332 => 182 | 215 => 137 | 343 => 196 | n => n, fun | 28 => 74 | 3 => 3 | 46 => 110 | 0 => 0 | 51 => 243 | 53 => 245 | 4 => 4 | 183 => 236 | 182 => 235 | 131 => 240 | 5 => 5 | 9 => 9 | 218 => 255 | 222 => 259 | 228 => 273 | 229 => 41 | n => n, fun | n => n⟩
theorem Tryz.sortI : Go.Proofs.Lays.n189 Tryz.prog Tryz.sortI_ren := {
 mixed := by kernel_rfl
 f125 := Tryz.func130.trans (congrArg some (by kernel_rfl))
 f128 := Tryz.func162.trans (congrArg some (by kernel_rfl))
 f129 := Tryz.func163.trans (congrArg some (by kernel_rfl))
 f189 := Tryz.func85.trans (congrArg some (by kernel_rfl))
 f215 := Tryz.func137.trans (congrArg some (by kernel_rfl))
 f216 := Tryz.func159.trans (congrArg some (by kernel_rfl))
 f257 := Tryz.func129.trans (congrArg some (by kernel_rfl))
 f294 := Tryz.func153.trans (congrArg some (by kernel_rfl))
 f295 := Tryz.func154.trans (congrArg some (by kernel_rfl))
 f296 := Tryz.func155.trans (congrArg some (by kernel_rfl))
 f297 := Tryz.func156.trans (congrArg some (by kernel_rfl))
 f298 := Tryz.func157.trans (congrArg some (by kernel_rfl))
 f299 := Tryz.func158.trans (congrArg some (by kernel_rfl))
 f300 := Tryz.func160.trans (congrArg some (by kernel_rfl))
 f301 := Tryz.func161.trans (congrArg some (by kernel_rfl))
 f328 := Tryz.func178.trans (congrArg some (by kernel_rfl))
 f329 := Tryz.func179.trans (congrArg some (by kernel_rfl))
 f330 := Tryz.func180.trans (congrArg some (by kernel_rfl))
 f331 := Tryz.func181.trans (congrArg some (by kernel_rfl))
 f332 := Tryz.func182.trans (congrArg some (by kernel_rfl))
 f343 := Tryz.func196.trans (congrArg some (by kernel_rfl))
 t0 := Tryz.underlying0
 a0 := Tryz.isAgg0
 z0 := Tryz.sizeOf0
 v0 := Tryz.zeroValue0
 t3 := Tryz.underlying3
 a3 := Tryz.isAgg3
 z3 := Tryz.sizeOf3
 v3 := Tryz.zeroValue3
 t4 := Tryz.underlying4
 a4 := Tryz.isAgg4
 z4 := Tryz.sizeOf4
 v4 := Tryz.zeroValue4
 t5 := Tryz.underlying5
 a5 := Tryz.isAgg5
 z5 := Tryz.sizeOf5
 v5 := Tryz.zeroValue5
 t9 := Tryz.underlying9
 a9 := Tryz.isAgg9
 z9 := Tryz.sizeOf9
 v9 := Tryz.zeroValue9
 t28 := Tryz.underlying74
 a28 := Tryz.isAgg74
 z28 := Tryz.sizeOf74
 v28 := Tryz.zeroValue74
 t46 := Tryz.underlying110
 a46 := Tryz.isAgg110
 z46 := Tryz.sizeOf110
 v46 := Tryz.zeroValue110
 t51 := Tryz.underlying243
 a51 := Tryz.isAgg243
 z51 := Tryz.sizeOf243
 v51 := Tryz.zeroValue243
 t53 := Tryz.underlying245
 a53 := Tryz.isAgg245
 z53 := Tryz.sizeOf245
 v53 := Tryz.zeroValue245
 t131 := Tryz.underlying240
 a131 := Tryz.isAgg240
 z131 := Tryz.sizeOf240
 v131 := Tryz.zeroValue240
 t182 := Tryz.underlying235
 a182 := Tryz.isAgg235
 z182 := Tryz.sizeOf235
 v182 := Tryz.zeroValue235
 t183 := Tryz.underlying236
 a183 := Tryz.isAgg236
 z183 := Tryz.sizeOf236
 v183 := Tryz.zeroValue236
 t218 := Tryz.underlying255
 a218 := Tryz.isAgg255
 z218 := Tryz.sizeOf255
 v218 := Tryz.zeroValue255
 t222 := Tryz.underlying259
 a222 := Tryz.isAgg259
 z222 := Tryz.sizeOf259
 v222 := Tryz.zeroValue259
 t228 := Tryz.underlying273
 a228 := Tryz.isAgg273
 z228 := Tryz.sizeOf273
 v228 := Tryz.zeroValue273
 t229 := Tryz.underlying41
 a229 := Tryz.isAgg41
 z229 := Tryz.sizeOf41
 v229 := Tryz.zeroValue41 }
end Go.Proofs.YtdmdabhdcpjkiaaGreatDoor
/- slices.SortFunc at origins. -/
namespace Go.Proofs.YtdmdabhdcpjkiaaGreatDoor
open Go.Shelf Go.RowKit Go.Lib Go.Sort
def ltO (a b : Org) : Bool := decide (a.1 < b.1) || (decide (a.1 = b.1) && decide (a.2 < b.2))
theorem ltOf_cmpO (x y : Org) : ltOf cmpO x y = ltO x y := by
 unfold ltOf cmpO ltO orI orI cmpI
 by_cases h1 : x.1 < y.1
 ·simp [h1]
 ·by_cases h2 : y.1 < x.1
  ·simp [h1, h2]; intro h; omega
  ·have h3 : x.1 = y.1 := by omega
   by_cases h4 : x.2 < y.2
   ·simp [h3, h4]
   ·by_cases h5 : y.2 < x.2
    ·simp [h3, h4, h5]
    ·simp [h3, h4, h5, orI]
theorem swoO : SWO (ltOf cmpO) where
 irrefl x := by rw [ltOf_cmpO]; simp [ltO]
 trans x y z h1 h2 := by rw [ltOf_cmpO] at *; simp [ltO] at *; omega
 ntrans x y z h1 h2 := by rw [ltOf_cmpO] at *; simp [ltO] at *; omega
theorem touch_sortWorldK (enc : Org → List Value) (k : Nat) (w : World) (g off m : Nat) (dk : Array Org) (os : Array Obj) : Touch (· = g) w (sortWorldK enc k w g off m dk os) := by
 refine ⟨rfl, rfl, rfl, ?_, fun k o hk hn => ?_⟩
 ·simp [sortWorldK, grow, putRowK, putRow, mapBlock, Sort.ahead]
 ·have hlt := (Array.getElem?_eq_some_iff.1 hk).1
  simp only [sortWorldK, grow, putRowK, putRow, mapBlock, Sort.ahead]
  rw [Array.getElem?_append_left (by simpa using hlt), Array.getElem?_modify, if_neg (fun e => hn e.symm)]
  exact hk
theorem flatK_pairs (xs : List Org) : flatK pairC 2 xs.toArray = (xs.flatMap pairC).toArray := by
 refine ext_get! (by rw [size_flatK, List.size_toArray, List.size_toArray, pairs_len]) fun t ht => ?_
 have ht' : t < xs.length * 2 := by simpa using ht
 have hq : t / 2 < xs.length := by omega
 have hm : t % 2 < 2 := Nat.mod_lt _ (by decide)
 rw [get_flatK _ _ _ _ (by simpa using ht')]
 have h1 : (xs.toArray)[t / 2]! = xs[t / 2] := by simp [hq]
 rw [h1]
 have h2 := flatMap_at (x := xs[t / 2]) pairC 2 (fun _ => rfl) xs (t / 2) (t % 2) (by simp) hm
 rw [show t / 2 * 2 + t % 2 = t by omega] at h2
 have h3 : ((xs.flatMap pairC).toArray)[t]! = ((xs.flatMap pairC)[t]?).getD default := by simp
 rw [h3, h2]
 simp
theorem enters_could1 : ∀ args w, (callFunc 103 args).run Tryz.prog w = .ok (.enter 103 args) w := enters_of Tryz.func103 (by kernel_rfl) rfl
theorem sortO_some (xs : List Org) (base g cap : Nat) (w : World) (hown : w.ownsRow base 93 2 (.slice (some ⟨g, 0, none⟩) xs.length cap) xs.length (xs.flatMap pairC)) (hl : xs.length ≤ 1000) (hgw : g < w.heap.size) :
  Calls Tryz.prog 102 #[.slice (some ⟨g, 0, none⟩) xs.length cap, .func (.func 103) #[] #[]] w fun e w' =>
   e = .returned (.tuple #[]) ∧ Touch (· = g) w w' ∧ ∃ ys : List Org, ys.Perm xs ∧ ys.Pairwise (fun a b => ltO b a = false) ∧ PairsAt w' (.slice (some ⟨g, 0, none⟩) xs.length cap) ys := by
 have hH : HoldsK pairC 2 w g 0 xs.toArray := by
  unfold HoldsK
  rw [flatK_pairs]
  intro j hj
  have hj' : j < (xs.flatMap pairC).length := by simpa using hj
  have hj2 : j < xs.length * 2 := by rw [← pairs_len]; exact hj'
  rw [Nat.zero_add]
  refine ⟨?_, hown.frozenAt j⟩
  rw [hown.cellAt j (by simpa using hj2)]
  have h1 : (xs.flatMap pairC).toArray[j]! = (xs.flatMap pairC)[j] := getElem!_pos _ j (by simpa using hj')
  rw [h1, List.getElem?_eq_getElem hj']
  rfl
 have hcmp : CmpLays Tryz.prog 103 #[] pairC 2 cmpO g 0 xs.toArray.size w := fun m os dk _ x y => could1_any x y _
 have hcon := AnyQ.slices_SortFunc Tryz.sortO 2 (fun w => Tryz.isAgg93 w) (fun w => Tryz.sizeOf93 w) pairC (fun _ => rfl) (fun x v hv => pairs_one [x] v (by simpa using hv)) cmpO swoO 103 #[] g 0 cap xs.toArray w enters_could1 hcmp hH hgw (by simp; omega)
 rw [show xs.toArray.size = xs.length by simp] at hcon
 refine hcon.mono ?_
 rintro e w' ⟨rfl, d', n, os, hp, hs, rfl⟩
 have hd : d'.size = xs.length := by rw [hp.1]; simp
 refine ⟨rfl, touch_sortWorldK _ _ _ _ _ _ _ _, d'.toList, ?_, ?_, ?_⟩
 ·have := hp.2.2
  have e1 : d'.extract 0 xs.length = d' := by rw [← hd, Array.extract_size]
  have e2 : xs.toArray.extract 0 xs.length = xs.toArray := by simp
  rw [e1, e2] at this
  exact this
 ·rw [List.pairwise_iff_getElem]
  intro i j hi hj hij
  simp only [Array.length_toList] at hi hj
  have := hs i j (Nat.zero_le _) hij (by omega)
  rw [ltOf_cmpO, getElem!_pos d' i hi, getElem!_pos d' j hj] at this
  simpa using this
 ·have hHw := holdsK_sortWorldK_c pairC 2 w g 0 xs.toArray d' n os hH hgw (by simp [hd])
  unfold HoldsK at hHw
  rw [show d' = d'.toList.toArray by simp, flatK_pairs] at hHw
  have hdl : d'.toList.length = xs.length := by simpa using hd
  obtain ⟨a, c, hv, r1, r2, r0, r3⟩ := RowAt.of_owns hown
  cases hv
  refine ⟨_, cap, by rw [hdl], by rw [hdl]; exact r1, r2, (fun h => by cases h), fun j u hj => ⟨g, 0, rfl, ?_⟩⟩
  have hjl := (List.getElem?_eq_some_iff.1 hj).1
  have := (hHw j (by simpa using hjl)).1
  rw [this]
  obtain ⟨h1, rfl⟩ := List.getElem?_eq_some_iff.1 hj
  have h2 : (d'.toList.flatMap pairC).toArray[j]! = (d'.toList.flatMap pairC)[j] := getElem!_pos _ j (by simpa using h1)
  rw [h2]
  rfl
theorem sortO_none (p : Option Addr) (c : Nat) (w : World) : Calls Tryz.prog 102 #[.slice p 0 c, .func (.func 103) #[] #[]] w fun e w' => e = .returned (.tuple #[]) ∧ w' = w :=
 AnyF.slices_SortFunc_none Tryz.sortO p c _ w
end Go.Proofs.YtdmdabhdcpjkiaaGreatDoor
