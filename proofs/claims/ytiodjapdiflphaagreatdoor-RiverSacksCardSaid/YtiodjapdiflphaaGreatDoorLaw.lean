/- The reference's comparisons: Same, SameOrigins; spans that are equal. -/
import Derived.Test.YtiodjapdiflphaaGreatDoorOrgs
import Derived.Test.YtiodjapdiflphaaGreatDoorWeaw
import Derived.Test.YtiodjapdiflphaaGreatDoorDealx
import Derived.Test.YtiodjapdiflphaaGreatDoorPrintq
import Derived.Test.YtiodjapdiflphaaGreatDoorWord
import Derived.Test.YtiodjapdiflphaaGreatDoorAsked
import Derived.Test.YtiodjapdiflphaaGreatDoorTests
namespace Go.Proofs.YtiodjapdiflphaaGreatDoor
open Go.RowKit
theorem take_eq_succ {α : Type} {xs ys : List α} {k : Nat} {x y : α} (h : xs.take k = ys.take k) (hx : xs[k]? = some x) (hy : ys[k]? = some y) (e : x = y) : xs.take (k + 1) = ys.take (k + 1) := by
 rw [List.take_add_one, List.take_add_one, hx, hy, h, e]
theorem ne_of_at {α : Type} {xs ys : List α} {k : Nat} {x y : α} (hx : xs[k]? = some x) (hy : ys[k]? = some y) (e : x ≠ y) : xs ≠ ys := by
 rintro rfl; rw [hx] at hy; cases hy; exact e rfl
set_option maxHeartbeats 1000000 in
theorem same_any (va vb : Value) (xs ys : List Int) (w : World) (ha : IntsAt w va xs) (hb : IntsAt w vb ys) :
  Calls Tryz.prog 34 #[va, vb] w fun e w' => e = .returned (.bool (decide (xs = ys))) ∧ Ext w w' := by
 obtain ⟨a, c, rfl, h1, h2, h3⟩ := ha.open
 obtain ⟨a', c', rfl, h1', h2', h3'⟩ := hb.open
 have hmix : Tryz.prog.follows .mixedOrders = true := by kernel_rfl
 by_cases hl : xs.length = ys.length
 ·have t0 : (xs.length == ys.length) = true := by simpa using hl
  have t1 : ((xs.length : Int) != (ys.length : Int)) = false := by simp [hl]
  have HL := Lib.hid hl
  have H3 := Lib.hid h3
  have H3' := Lib.hid h3'
  clear hl h3 h3' ha hb
  go_enter Tryz.func34, Tryz.ntmps34
  go_wp2
  go_loopw [5] (fun i wr => ∃ k : Nat, k ≤ xs.length ∧ i = .int .i64 k ∧ Hid (xs.take k = ys.take k) ∧ Ext w wr) (fun i _ => xs.length - (intOf i).toNat)
  case atStart => exact ⟨0, Nat.zero_le _, rfl, by simp [Hid], Ext.refl _⟩
  case round =>
   obtain ⟨k, hk, rfl, hE, hx⟩ := hrel
   by_cases hlt : k < xs.length
   ·obtain ⟨b, o, x, rfl, hxk, hc⟩ := H3.out k hlt
    obtain ⟨b', o', y, rfl, hyk, hc'⟩ := H3'.out k (by rw [← HL.out]; exact hlt)
    have hlt' : k < ys.length := by rw [← HL.out]; exact hlt
    have d0 := hx.cell hc
    have d1 := hx.cell hc'
    have x2 : decide ((k : Int) < (xs.length : Int)) = true := by simpa using hlt
    have x3 : decide ((k : Int) < (ys.length : Int)) = true := by simpa using hlt'
    clear hc hc'
    by_cases hxy : x = y
    ·have hs := Lib.hid (take_eq_succ hE.out hxk.out hyk.out hxy)
     subst hxy
     go_wp2
     go_quiet (fail)
     go_wp2
     exact ⟨⟨k + 1, by omega, by go_num, hs.out, hx.drewN _⟩, by simp [intOf]; omega⟩
    ·have hne : xs ≠ ys := ne_of_at hxk.out hyk.out hxy
     have hd : decide (xs = ys) = false := by simpa using hne
     have t3 : (x != y) = true := by simpa using hxy
     have HD := Lib.hid hd
     clear hne hd
     go_wp2
     go_quiet (fail)
     go_wp2
     go_ret
     exact ⟨by rw [HD.out]; rfl, hx.drewN _⟩
   ·have hke : k = xs.length := by omega
    have he : xs = ys := by
     have := hE.out
     rwa [List.take_of_length_le (by omega), List.take_of_length_le (by have := HL.out; omega)] at this
    have hd : decide (xs = ys) = true := by simpa using he
    have x2 : decide ((k : Int) < (xs.length : Int)) = false := by simp; omega
    have HD := Lib.hid hd
    clear he hd hke
    go_wp2
    go_ret
    exact ⟨by rw [HD.out]; rfl, hx⟩
 ·have hne : xs ≠ ys := fun e => hl (by rw [e])
  have hd : decide (xs = ys) = false := by simpa using hne
  have t0 : (xs.length == ys.length) = false := by simpa using hl
  have t1 : ((xs.length : Int) == (ys.length : Int)) = false := by rw [beq_eq_false_iff_ne]; omega
  have t2 : (xs.length != ys.length) = true := by simpa using hl
  have t3 : ((xs.length : Int) != (ys.length : Int)) = true := by rw [bne_iff_ne]; omega
  rw [hd]
  clear hne hd hl h3 h3' ha hb
  go_enter Tryz.func34, Tryz.ntmps34
  go_wp2
  go_ret
  exact ⟨rfl, Ext.refl _⟩
theorem span_fields : ((Tryz.prog.fieldsOf 52).toList.map fun f => (f.name, f.type, f.offset)) = [("Low", 3, 0), ("High", 3, 1)] := by kernel_rfl
theorem span_under : Tryz.prog.underlying 52 = some (.struct (Tryz.prog.fieldsOf 52)) := by kernel_rfl
theorem span_held : Tryz.prog.stoodInHeld 52 = false := by kernel_rfl
theorem span_guard : Tryz.prog.eqGuardType Tryz.prog.depth 52 = false := by kernel_rfl
theorem span_equal (a b c d : Int) (w : World) : (Op.equalIn 10000 52 (.agg #[.int .i64 a, .int .i64 b]) (.agg #[.int .i64 c, .int .i64 d])).run Tryz.prog w = .ok (a == c && b == d) w := by
 obtain ⟨f1, f2, hf, n1, t1, o1, n2, t2, o2⟩ := two_fields span_fields
 have hu := Tryz.underlying3
 rw [run_equalIn_struct w 9999 _ _ _ span_under span_held, hf]
 cases h1 : (a == c) <;> cases h2 : (b == d) <;> simp [Op.eqFields, go_sem, n1, t1, o1, n2, t2, o2, hu, h1, h2]
theorem span_neq (a b c d : Int) (w : World) : (binOp .neq 52 (.agg #[.int .i64 a, .int .i64 b]) (.agg #[.int .i64 c, .int .i64 d])).run Tryz.prog w = .ok (.bool (!(a == c && b == d))) w := by
 rw [run_neq_struct, span_equal]; rfl
theorem span_eql (a b c d : Int) (w : World) : (binOp .eql 52 (.agg #[.int .i64 a, .int .i64 b]) (.agg #[.int .i64 c, .int .i64 d])).run Tryz.prog w = .ok (.bool (a == c && b == d)) w := by
 rw [run_eql_struct, span_equal]; rfl
set_option maxRecDepth 100000 in
set_option maxHeartbeats 1000000 in
theorem sameO_any (va vb : Value) (xs ys : List (Int × Int)) (w : World) (ha : PairsAt w va xs) (hb : PairsAt w vb ys) :
  Calls Tryz.prog 18 #[va, vb] w fun e w' => e = .returned (.bool (decide (xs = ys))) ∧ Ext w w' := by
 obtain ⟨a, c, rfl, h1, h2, h3⟩ := ha.open
 obtain ⟨a', c', rfl, h1', h2', h3'⟩ := hb.open
 have hmix : Tryz.prog.follows .mixedOrders = true := by kernel_rfl
 have hsg := org_guard
 have hsn := org_neq
 by_cases hl : xs.length = ys.length
 ·have t0 : (xs.length == ys.length) = true := by simpa using hl
  have t1 : ((xs.length : Int) != (ys.length : Int)) = false := by simp [hl]
  have HL := Lib.hid hl
  have H3 := Lib.hid h3
  have H3' := Lib.hid h3'
  clear hl h3 h3' ha hb
  go_enter Tryz.func18, Tryz.ntmps18
  go_wp2
  go_loopw [5] (fun i wr => ∃ k : Nat, k ≤ xs.length ∧ i = .int .i64 k ∧ Hid (xs.take k = ys.take k) ∧ Ext w wr) (fun i _ => xs.length - (intOf i).toNat)
  case atStart => exact ⟨0, Nat.zero_le _, rfl, by simp [Hid], Ext.refl _⟩
  case round =>
   obtain ⟨k, hk, rfl, hE, hx⟩ := hrel
   by_cases hlt : k < xs.length
   ·obtain ⟨b, o, x, rfl, hxk, hc, hd⟩ := H3.out k hlt
    obtain ⟨b', o', y, rfl, hyk, hc', hd'⟩ := H3'.out k (by rw [← HL.out]; exact hlt)
    have hlt' : k < ys.length := by rw [← HL.out]; exact hlt
    have d0 := hx.cell hc
    have d1 := hx.cell hc'
    have d2 := hx.cell hd
    have d3 := hx.cell hd'
    have x2 : decide ((k : Int) < (xs.length : Int)) = true := by simpa using hlt
    have x3 : decide ((k : Int) < (ys.length : Int)) = true := by simpa using hlt'
    obtain ⟨x1, x2'⟩ := x
    obtain ⟨y1, y2⟩ := y
    simp only at d0 d1 d2 d3
    clear hc hc' hd hd'
    by_cases hxy : x1 = y1 ∧ x2' = y2
    ·obtain ⟨rfl, rfl⟩ := hxy
     have hs := Lib.hid (take_eq_succ hE.out hxk.out hyk.out rfl)
     go_wp2
     go_quiet (fail)
     go_wp2
     exact ⟨⟨k + 1, by omega, by go_num, hs.out, hx.drewN _⟩, by simp [intOf]; omega⟩
    ·have hne : xs ≠ ys := ne_of_at hxk.out hyk.out (fun e => hxy (by simpa using e))
     have hd : decide (xs = ys) = false := by simpa using hne
     have HD := Lib.hid hd
     clear hne hd
     by_cases e1 : x1 = y1
     ·subst e1
      have e2 : ¬ x2' = y2 := fun e => hxy ⟨rfl, e⟩
      have t4 : (x2' == y2) = false := by simpa using e2
      clear hxy
      go_wp2
      go_quiet (fail)
      go_wp2
      go_ret
      exact ⟨by rw [HD.out]; rfl, hx.drewN _⟩
     ·have t4 : (x1 == y1) = false := by simpa using e1
      clear hxy
      go_wp2
      go_quiet (fail)
      go_wp2
      go_ret
      exact ⟨by rw [HD.out]; rfl, hx.drewN _⟩
   ·have hke : k = xs.length := by omega
    have he : xs = ys := by
     have := hE.out
     rwa [List.take_of_length_le (by omega), List.take_of_length_le (by have := HL.out; omega)] at this
    have hd : decide (xs = ys) = true := by simpa using he
    have x2 : decide ((k : Int) < (xs.length : Int)) = false := by simp; omega
    have HD := Lib.hid hd
    clear he hd hke
    go_wp2
    go_ret
    exact ⟨by rw [HD.out]; rfl, hx⟩
 ·have hne : xs ≠ ys := fun e => hl (by rw [e])
  have hd : decide (xs = ys) = false := by simpa using hne
  have t0 : (xs.length == ys.length) = false := by simpa using hl
  have t1 : ((xs.length : Int) == (ys.length : Int)) = false := by rw [beq_eq_false_iff_ne]; omega
  have t2 : (xs.length != ys.length) = true := by simpa using hl
  have t3 : ((xs.length : Int) != (ys.length : Int)) = true := by rw [bne_iff_ne]; omega
  rw [hd]
  clear hne hd hl h3 h3' ha hb
  go_enter Tryz.func18, Tryz.ntmps18
  go_wp2
  go_ret
  exact ⟨rfl, Ext.refl _⟩
theorem same_yes (va vb : Value) (xs : List Int) (w : World) (ha : IntsAt w va xs) (hb : IntsAt w vb xs) : Calls Tryz.prog 34 #[va, vb] w fun e w' => e = .returned (.bool true) ∧ Ext w w' :=
 (same_any va vb xs xs w ha hb).mono fun e w' h => by rw [decide_eq_true (rfl : xs = xs)] at h; exact h
theorem sameO_yes (va vb : Value) (xs : List (Int × Int)) (w : World) (ha : PairsAt w va xs) (hb : PairsAt w vb xs) : Calls Tryz.prog 18 #[va, vb] w fun e w' => e = .returned (.bool true) ∧ Ext w w' :=
 (sameO_any va vb xs xs w ha hb).mono fun e w' h => by rw [decide_eq_true (rfl : xs = xs)] at h; exact h
end Go.Proofs.YtiodjapdiflphaaGreatDoor
/- The law's own functions: span, origin, shell, B, S, L, K, slim. -/
namespace Go.Proofs.YtiodjapdiflphaaGreatDoor
open Go.RowKit
theorem lspan_any (lo hi : Int) (w : World) : Calls Tryz.prog 33 #[.int .i64 lo, .int .i64 hi] w fun e w' => e = .returned (.agg #[.int .i64 lo, .int .i64 hi]) ∧ Ext w w' := by
 go_enter Tryz.func33, Tryz.ntmps33
 go_wp2
 exact bodyPost_ret (v := .agg #[.int .i64 lo, .int .i64 hi]) (by simp [results, Tryz.results33, go_sem]) rfl ⟨rfl, (Ext.refl _).alloc _⟩
theorem lorigin_any (r y : Int) (w : World) : Calls Tryz.prog 32 #[.int .i64 r, .int .i64 y] w fun e w' => e = .returned (.agg #[.int .i64 r, .int .i64 y]) ∧ Ext w w' := by
 go_enter Tryz.func32, Tryz.ntmps32
 go_wp2
 exact bodyPost_ret (v := .agg #[.int .i64 r, .int .i64 y]) (by simp [results, Tryz.results32, go_sem]) rfl ⟨rfl, (Ext.refl _).alloc _⟩
theorem lshell_any (off : Int) (a : Option Addr) (n c : Nat) (w : World) : Calls Tryz.prog 57 #[.int .i64 off, .slice a n c] w fun e w' => e = .returned (.agg #[.slice a n c, .int .i64 off]) ∧ Ext w w' := by
 go_enter Tryz.func57, Tryz.ntmps57
 go_wp2
 exact bodyPost_ret (v := .agg #[.slice a n c, .int .i64 off]) (by simp [results, Tryz.results57, go_sem]) rfl ⟨rfl, (Ext.refl _).alloc _⟩
/-- Rows that a call has laid, behind stores into another block. -/
theorem kints_new (W : World) (cs : Array Value) (n : Nat) (xs : List Int) (hn : n ≤ maxLen) (h : cs.toList = xs.map (.int .i64)) (hl : xs.length = n) : IntsAt (W.alloc (.cells cs 3)) (.slice (some ⟨W.heap.size, 0, none⟩) n n) xs := by
 have := RowAt.new W cs 3 n n (Nat.le_refl _) hn
 unfold IntsAt; rw [hl, ← h]; exact this
theorem krow_new {α : Type} {f : α → List Value} (W : World) (cs : Array Value) (t : TypeId) (n : Nat) (xs : List α) (hn : n ≤ maxLen) (h : cs.toList = xs.flatMap f) (hl : xs.length = n) : RowOf f (W.alloc (.cells cs t)) (.slice (some ⟨W.heap.size, 0, none⟩) n n) xs := by
 have := RowAt.new W cs t n n (Nat.le_refl _) hn
 unfold RowOf; rw [hl, ← h]; exact this
theorem four_le : 4 ≤ maxLen := by unfold maxLen; omega
theorem three_le : 3 ≤ maxLen := by unfold maxLen; omega
theorem two_le : 2 ≤ maxLen := by unfold maxLen; omega
theorem IntsAt.touch8 {M : Nat → Prop} {A B : World} {v : Value} {xs : List Int} (h : IntsAt A v xs) (k : Touch M A B) (hm : OffV M v) : IntsAt B v xs := RowAt.touch h k hm
theorem off_one {b m n c : Nat} (h : ¬ m = b) : OffV (· = b) (.slice (some ⟨m, 0, none⟩) n c) := fun a k d hv hM => by cases hv; exact h hM
def bookEx (m : Nat) : Value := .agg #[.int .i64 4, .slice (some ⟨m, 0, none⟩) 2 2]
set_option maxRecDepth 100000 in
set_option maxHeartbeats 4000000 in
theorem lB_any (w : World) : Calls Tryz.prog 23 #[] w fun e w' => ∃ m, e = .returned (bookEx m) ∧ Ext w w' ∧ BookAt w' (bookEx m) exB := by
 have HS := Lib.hid (fun W (h : Ext (w.alloc (.cells #[.int .i64 0, .slice none 0 0] 24)) W) => (⟨h.cell (by go_simp), h.cell (by go_simp), (h.frozen (a := ⟨w.heap.size, 0, none⟩) (by simp)).trans (by go_simp), (h.frozen (a := ⟨w.heap.size, 1, none⟩) (by simp)).trans (by go_simp)⟩ :
  W.cell? ⟨w.heap.size, 0, none⟩ = some (.int .i64 0) ∧ W.cell? ⟨w.heap.size, 1, none⟩ = some (.slice none 0 0) ∧ W.frozen? ⟨w.heap.size, 0, none⟩ = false ∧ W.frozen? ⟨w.heap.size, 1, none⟩ = false))
 have h0 := Ext.refl (w.alloc (.cells #[.int .i64 0, .slice none 0 0] 24))
 go_enter Tryz.func23, Tryz.ntmps23
 go_wp2_with fail
 refine (lspan_any _ _ _).mono ?_
 rintro e w1 ⟨rfl, hx1⟩
 go_wp2_with fail
 refine (lspan_any _ _ _).mono ?_
 rintro e w2 ⟨rfl, hx2⟩
 go_wp2_with fail
 refine (lspan_any _ _ _).mono ?_
 rintro e w3 ⟨rfl, hx3⟩
 go_wp2_with fail
 refine (lspan_any _ _ _).mono ?_
 rintro e w4 ⟨rfl, hx4⟩
 have a4 := ((hx1.trans hx2).trans hx3).trans hx4
 go_wp2_with fail
 refine (lspan_any _ _ _).mono ?_
 rintro e w5 ⟨rfl, hx5⟩
 go_wp2_with fail
 refine (lspan_any _ _ _).mono ?_
 rintro e w6 ⟨rfl, hx6⟩
 go_wp2_with fail
 refine (lspan_any _ _ _).mono ?_
 rintro e w7 ⟨rfl, hx7⟩
 go_wp2_with fail
 refine (lspan_any _ _ _).mono ?_
 rintro e w8 ⟨rfl, hx8⟩
 have a8 := ((hx5.trans hx6).trans hx7).trans hx8
 have g1 : PairsAt (w4.alloc (.cells #[.int .i64 10, .int .i64 12, .int .i64 14, .int .i64 16, .int .i64 8, .int .i64 9, .int .i64 20, .int .i64 22] 52)) (.slice (some ⟨w4.heap.size, 0, none⟩) 4 4) [(10, 12), (14, 16), (8, 9), (20, 22)] := krow_new _ _ _ 4 _ four_le rfl rfl
 have g2 : PairsAt (w8.alloc (.cells #[.int .i64 12, .int .i64 14, .int .i64 9, .int .i64 10, .int .i64 15, .int .i64 15, .int .i64 10, .int .i64 12] 52)) (.slice (some ⟨w8.heap.size, 0, none⟩) 4 4) [(12, 14), (9, 10), (15, 15), (10, 12)] := krow_new _ _ _ 4 _ four_le rfl rfl
 have z4 : w.heap.size < w4.heap.size := by have := a4.size; simp at this; omega
 have z8 : w4.heap.size < w8.heap.size := by have := a8.size; simp at this; omega
 have a4w : Ext w w4 := ((Ext.refl w).alloc _).trans a4
 have x9 := (a8.alloc (.cells #[.int .i64 12, .int .i64 14, .int .i64 9, .int .i64 10, .int .i64 15, .int .i64 15, .int .i64 10, .int .i64 12] 52)).alloc (.cells #[.slice (some ⟨w4.heap.size, 0, none⟩) 4 4, .int .i64 1, .int .i64 4, .slice (some ⟨w8.heap.size, 0, none⟩) 4 4, .int .i64 0, .int .i64 10] 62)
 have G1 := Lib.hid (g1.ext x9)
 have G2 := Lib.hid (g2.ext ((Ext.refl _).alloc (.cells #[.slice (some ⟨w4.heap.size, 0, none⟩) 4 4, .int .i64 1, .int .i64 4, .slice (some ⟨w8.heap.size, 0, none⟩) 4 4, .int .i64 0, .int .i64 10] 62)))
 have G3 := Lib.hid (krow_new (f := riverC) (w8.alloc (.cells #[.int .i64 12, .int .i64 14, .int .i64 9, .int .i64 10, .int .i64 15, .int .i64 15, .int .i64 10, .int .i64 12] 52)) #[.slice (some ⟨w4.heap.size, 0, none⟩) 4 4, .int .i64 1, .int .i64 4, .slice (some ⟨w8.heap.size, 0, none⟩) 4 4, .int .i64 0, .int .i64 10] 62 2 [(.slice (some ⟨w4.heap.size, 0, none⟩) 4 4, ⟨[(10, 12), (14, 16), (8, 9), (20, 22)], 1, 4⟩), (.slice (some ⟨w8.heap.size, 0, none⟩) 4 4, ⟨[(12, 14), (9, 10), (15, 15), (10, 12)], 0, 10⟩)] two_le rfl rfl)
 have HX := Lib.hid ((a4w.alloc _).trans x9)
 obtain ⟨c0, c1, f0, f1⟩ := HS.out _ ((a4.alloc _).trans x9)
 clear g1 g2 x9 a4 a8 a4w hx1 hx2 hx3 hx4 hx5 hx6 hx7 hx8 h0
 have hs9 : (w8.alloc (.cells #[.int .i64 12, .int .i64 14, .int .i64 9, .int .i64 10, .int .i64 15, .int .i64 15, .int .i64 10, .int .i64 12] 52)).heap.size = w8.heap.size + 1 := by simp
 have HS9 := Lib.hid hs9
 clear hs9
 go_wp2_with fail
 rw [HS9.out] at G3
 generalize ((w8.alloc (.cells #[.int .i64 12, .int .i64 14, .int .i64 9, .int .i64 10, .int .i64 15, .int .i64 15, .int .i64 10, .int .i64 12] 52)).alloc (.cells #[.slice (some ⟨w4.heap.size, 0, none⟩) 4 4, .int .i64 1, .int .i64 4, .slice (some ⟨w8.heap.size, 0, none⟩) 4 4, .int .i64 0, .int .i64 10] 62)) = w9 at *
 have hT : Touch (· = w.heap.size) w9 ((w9.setCell ⟨w.heap.size, 0, none⟩ (.int .i64 4)).setCell ⟨w.heap.size, 1, none⟩ (.slice (some ⟨w8.heap.size + 1, 0, none⟩) 2 2)) := (Touch.setCell (M := (· = w.heap.size)) (a := ⟨w.heap.size, 0, none⟩) _ rfl).trans (Touch.setCell (a := ⟨w.heap.size, 1, none⟩) _ rfl)
 have d0 : ((w9.setCell ⟨w.heap.size, 0, none⟩ (.int .i64 4)).setCell ⟨w.heap.size, 1, none⟩ (.slice (some ⟨w8.heap.size + 1, 0, none⟩) 2 2)).cell? ⟨w.heap.size, 0, none⟩ = some (.int .i64 4) := by go_simp
 have d1 : ((w9.setCell ⟨w.heap.size, 0, none⟩ (.int .i64 4)).setCell ⟨w.heap.size, 1, none⟩ (.slice (some ⟨w8.heap.size + 1, 0, none⟩) 2 2)).cell? ⟨w.heap.size, 1, none⟩ = some (.slice (some ⟨w8.heap.size + 1, 0, none⟩) 2 2) := by go_simp
 refine bodyPost_ret (v := bookEx (w8.heap.size + 1)) (by simp [results, Tryz.results23, go_sem, bookEx, d0, d1]) rfl ⟨_, rfl, Touch.ext HX.out hT (fun i hi => by omega), _, rfl, _, rfl, RowAt.touch G3.out hT (off_one (by omega)), fun x hx => ?_⟩
 rcases List.mem_cons.1 hx with rfl | hx
 ·exact RowAt.touch G1.out hT (off_one (by omega))
 ·rcases List.mem_cons.1 hx with rfl | hx
  ·exact RowAt.touch G2.out hT (off_one (by omega))
  ·cases hx
def sackEx (m : Nat) : Value := .agg #[.slice (some ⟨m, 0, none⟩) 3 3, .slice none 0 0]
set_option maxRecDepth 100000 in
set_option maxHeartbeats 4000000 in
theorem lS_any (w : World) : Calls Tryz.prog 24 #[] w fun e w' => ∃ m a0 a1, e = .returned (sackEx m) ∧ Ext w w' ∧ SackAt w' (sackEx m) exS ∧
  (w'.cell? ⟨m, 0, none⟩ = some (.slice (some ⟨a0, 0, none⟩) 2 2) ∧ w'.cell? ⟨m, 1, none⟩ = some (.int .i64 1) ∧ IntsAt w' (.slice (some ⟨a0, 0, none⟩) 2 2) [13, 9]) ∧
  (w'.cell? ⟨m, 2, none⟩ = some (.slice (some ⟨a1, 0, none⟩) 1 1) ∧ w'.cell? ⟨m, 3, none⟩ = some (.int .i64 1) ∧ IntsAt w' (.slice (some ⟨a1, 0, none⟩) 1 1) [12]) := by
 have HS := Lib.hid (fun W (h : Ext (w.alloc (.cells #[.slice none 0 0, .slice none 0 0] 28)) W) => (⟨h.cell (by go_simp), h.cell (by go_simp), (h.frozen (a := ⟨w.heap.size, 0, none⟩) (by simp)).trans (by go_simp), (h.frozen (a := ⟨w.heap.size, 1, none⟩) (by simp)).trans (by go_simp)⟩ :
  W.cell? ⟨w.heap.size, 0, none⟩ = some (.slice none 0 0) ∧ W.cell? ⟨w.heap.size, 1, none⟩ = some (.slice none 0 0) ∧ W.frozen? ⟨w.heap.size, 0, none⟩ = false ∧ W.frozen? ⟨w.heap.size, 1, none⟩ = false))
 obtain ⟨w0, hw0⟩ : ∃ w0, w0 = w.alloc (.cells #[.slice none 0 0, .slice none 0 0] 28) := ⟨_, rfl⟩
 rw [← hw0] at HS
 have hx0 : Ext w w0 := by rw [hw0]; exact (Ext.refl w).alloc _
 have hz0 : w.heap.size < w0.heap.size := by rw [hw0]; simp
 go_enter Tryz.func24, Tryz.ntmps24
 go_upto_region 1 with fail
 rw [← hw0]
 clear hw0
 go_wp2_with fail
 refine (lshell_any _ _ _ _ _).mono ?_
 rintro e w1 ⟨rfl, hx1⟩
 go_wp2_with fail
 refine (lshell_any _ _ _ _ _).mono ?_
 rintro e w2 ⟨rfl, hx2⟩
 go_wp2_with fail
 refine (lshell_any _ _ _ _ _).mono ?_
 rintro e w3 ⟨rfl, hx3⟩
 have g0 := kints_new w0 #[.int .i64 13, .int .i64 9] 2 [13, 9] two_le rfl rfl
 have g1 := kints_new w1 #[.int .i64 12] 1 [12] one_le_maxLen rfl rfl
 have g2 := kints_new w2 #[.int .i64 17] 1 [17] one_le_maxLen rfl rfl
 have z1 : w0.heap.size < w1.heap.size := by have := hx1.size; simp at this; omega
 have z2 : w1.heap.size < w2.heap.size := by have := hx2.size; simp at this; omega
 have z3 : w2.heap.size < w3.heap.size := by have := hx3.size; simp at this; omega
 have x3 := hx3.alloc (.cells #[.slice (some ⟨w0.heap.size, 0, none⟩) 2 2, .int .i64 1, .slice (some ⟨w1.heap.size, 0, none⟩) 1 1, .int .i64 1, .slice (some ⟨w2.heap.size, 0, none⟩) 1 1, .int .i64 0] 65)
 have x2 := hx2.trans (((Ext.refl w2).alloc _).trans x3)
 have x1 := hx1.trans (((Ext.refl w1).alloc _).trans x2)
 have G0 := Lib.hid (IntsAt.ext g0 x1)
 have G1 := Lib.hid (IntsAt.ext g1 x2)
 have G2 := Lib.hid (IntsAt.ext g2 x3)
 have G3 := Lib.hid (krow_new (f := shellC) w3 #[.slice (some ⟨w0.heap.size, 0, none⟩) 2 2, .int .i64 1, .slice (some ⟨w1.heap.size, 0, none⟩) 1 1, .int .i64 1, .slice (some ⟨w2.heap.size, 0, none⟩) 1 1, .int .i64 0] 65 3 [(.slice (some ⟨w0.heap.size, 0, none⟩) 2 2, ⟨[13, 9], 1⟩), (.slice (some ⟨w1.heap.size, 0, none⟩) 1 1, ⟨[12], 1⟩), (.slice (some ⟨w2.heap.size, 0, none⟩) 1 1, ⟨[17], 0⟩)] three_le rfl rfl)
 have HX := Lib.hid (hx0.trans (((Ext.refl w0).alloc _).trans x1))
 obtain ⟨c0, c1, f0, f1⟩ := HS.out _ (((Ext.refl w0).alloc _).trans x1)
 have HQ := Lib.hid (show (w3.alloc (.cells #[.slice (some ⟨w0.heap.size, 0, none⟩) 2 2, .int .i64 1, .slice (some ⟨w1.heap.size, 0, none⟩) 1 1, .int .i64 1, .slice (some ⟨w2.heap.size, 0, none⟩) 1 1, .int .i64 0] 65)).cell? ⟨w3.heap.size, 0, none⟩ = some (.slice (some ⟨w0.heap.size, 0, none⟩) 2 2) ∧
  (w3.alloc (.cells #[.slice (some ⟨w0.heap.size, 0, none⟩) 2 2, .int .i64 1, .slice (some ⟨w1.heap.size, 0, none⟩) 1 1, .int .i64 1, .slice (some ⟨w2.heap.size, 0, none⟩) 1 1, .int .i64 0] 65)).cell? ⟨w3.heap.size, 1, none⟩ = some (.int .i64 1) ∧
  (w3.alloc (.cells #[.slice (some ⟨w0.heap.size, 0, none⟩) 2 2, .int .i64 1, .slice (some ⟨w1.heap.size, 0, none⟩) 1 1, .int .i64 1, .slice (some ⟨w2.heap.size, 0, none⟩) 1 1, .int .i64 0] 65)).cell? ⟨w3.heap.size, 2, none⟩ = some (.slice (some ⟨w1.heap.size, 0, none⟩) 1 1) ∧
  (w3.alloc (.cells #[.slice (some ⟨w0.heap.size, 0, none⟩) 2 2, .int .i64 1, .slice (some ⟨w1.heap.size, 0, none⟩) 1 1, .int .i64 1, .slice (some ⟨w2.heap.size, 0, none⟩) 1 1, .int .i64 0] 65)).cell? ⟨w3.heap.size, 3, none⟩ = some (.int .i64 1) from ⟨by go_simp, by go_simp, by go_simp, by go_simp⟩)
 clear g0 g1 g2 x1 x2 x3 hx1 hx2 hx3 hx0
 go_wp2_with fail
 generalize (w3.alloc (.cells #[.slice (some ⟨w0.heap.size, 0, none⟩) 2 2, .int .i64 1, .slice (some ⟨w1.heap.size, 0, none⟩) 1 1, .int .i64 1, .slice (some ⟨w2.heap.size, 0, none⟩) 1 1, .int .i64 0] 65)) = w9 at *
 have hT : Touch (· = w.heap.size) w9 ((w9.setCell ⟨w.heap.size, 0, none⟩ (.slice (some ⟨w3.heap.size, 0, none⟩) 3 3)).setCell ⟨w.heap.size, 1, none⟩ (.slice none 0 0)) := (Touch.setCell (M := (· = w.heap.size)) (a := ⟨w.heap.size, 0, none⟩) _ rfl).trans (Touch.setCell (a := ⟨w.heap.size, 1, none⟩) _ rfl)
 have d0 : ((w9.setCell ⟨w.heap.size, 0, none⟩ (.slice (some ⟨w3.heap.size, 0, none⟩) 3 3)).setCell ⟨w.heap.size, 1, none⟩ (.slice none 0 0)).cell? ⟨w.heap.size, 0, none⟩ = some (.slice (some ⟨w3.heap.size, 0, none⟩) 3 3) := by go_simp
 have d1 : ((w9.setCell ⟨w.heap.size, 0, none⟩ (.slice (some ⟨w3.heap.size, 0, none⟩) 3 3)).setCell ⟨w.heap.size, 1, none⟩ (.slice none 0 0)).cell? ⟨w.heap.size, 1, none⟩ = some (.slice none 0 0) := by go_simp
 have n3 : ¬ w3.heap.size = w.heap.size := by omega
 have k0 := IntsAt.touch8 G0.out hT (off_one (by omega))
 have k1 := IntsAt.touch8 G1.out hT (off_one (by omega))
 have k2 := IntsAt.touch8 G2.out hT (off_one (by omega))
 refine bodyPost_ret (v := sackEx w3.heap.size) (by simp [results, Tryz.results24, go_sem, sackEx, d0, d1]) rfl ⟨_, _, _, rfl, Touch.ext HX.out hT (fun i hi => by omega), ⟨_, _, rfl, ⟨_, rfl, RowAt.touch G3.out hT (off_one n3), fun x hx => ?_⟩, RowOf.nil _ _⟩, ⟨hT.cell HQ.out.1 n3, hT.cell HQ.out.2.1 n3, k0⟩, hT.cell HQ.out.2.2.1 n3, hT.cell HQ.out.2.2.2 n3, k1⟩
 rcases List.mem_cons.1 hx with rfl | hx
 ·exact k0
 ·rcases List.mem_cons.1 hx with rfl | hx
  ·exact k1
  ·rcases List.mem_cons.1 hx with rfl | hx
   ·exact k2
   ·cases hx
theorem lL_any (w : World) : Calls Tryz.prog 29 #[] w fun e w' => ∃ m, e = .returned (.slice (some ⟨m, 0, none⟩) 2 2) ∧ Ext w w' ∧ RowOf licC w' (.slice (some ⟨m, 0, none⟩) 2 2) exL := by
 go_enter Tryz.func29, Tryz.ntmps29
 go_wp2
 go_ret
 exact ⟨_, rfl, (Ext.refl _).alloc _, krow_new _ _ _ 2 _ two_le rfl rfl⟩
theorem lK_any (w : World) : Calls Tryz.prog 30 #[] w fun e w' => ∃ m, e = .returned (.slice (some ⟨m, 0, none⟩) 4 4) ∧ Ext w w' ∧ RowOf takC w' (.slice (some ⟨m, 0, none⟩) 4 4) exK := by
 go_enter Tryz.func30, Tryz.ntmps30
 go_wp2_with fail
 refine (lspan_any _ _ _).mono ?_
 rintro e w1 ⟨rfl, hx1⟩
 go_wp2_with fail
 refine (lspan_any _ _ _).mono ?_
 rintro e w2 ⟨rfl, hx2⟩
 go_wp2_with fail
 refine (lspan_any _ _ _).mono ?_
 rintro e w3 ⟨rfl, hx3⟩
 go_wp2_with fail
 go_ret
 exact ⟨_, rfl, ((hx1.trans hx2).trans hx3).alloc _, krow_new _ _ _ 4 _ four_le rfl rfl⟩
end Go.Proofs.YtiodjapdiflphaaGreatDoor
