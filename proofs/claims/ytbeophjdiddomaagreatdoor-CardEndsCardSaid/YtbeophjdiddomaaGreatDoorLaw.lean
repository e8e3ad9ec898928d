/- The law's own functions: span, R, Q, C, K, slim. -/
import Derived.Test.YtbeophjdiddomaaGreatDoorKnown
import Derived.Test.YtbeophjdiddomaaGreatDoorFilld
import Derived.Test.YtbeophjdiddomaaGreatDoorDue
import Derived.Test.YtbeophjdiddomaaGreatDoorTextb
namespace Go.Proofs.YtbeophjdiddomaaGreatDoor
open Go.RowKit

theorem lspan_any (lo hi : Int) (w : World) : Calls Tryz.prog 36 #[.int .i64 lo, .int .i64 hi] w fun e w' => e = .returned (.agg #[.int .i64 lo, .int .i64 hi]) ∧ Ext w w' := by
  go_enter Tryz.func36, Tryz.ntmps36
  go_wp2
  exact bodyPost_ret (v := .agg #[.int .i64 lo, .int .i64 hi]) (by simp [results, Tryz.f36, go_sem]) rfl ⟨rfl, (Ext.refl _).alloc _⟩
def rR : Round := ⟨12, 2, 3, 5, 4, [⟨60, 5, 4, 7, 1, 185⟩, ⟨50, 4, 3, 9, 1, 150⟩], 100, 0⟩
def rQ : Round := ⟨12, 2, 3, 5, 4, [⟨60, 5, 4, 7, 1, 149⟩, ⟨50, 4, 3, 9, 1, 150⟩], 91, 0⟩
def slimB (r : Round) : Bool := decide ((r.houses.length : Int) ≤ 6)
theorem slim_any (v : Value) (r : Round) (w : World) (hr : RoundAt w v r) : Calls Tryz.prog 7 #[v] w fun e w' => e = .returned (.bool (slimB r)) ∧ Ext w w' := by
  obtain ⟨hv, rfl, hh⟩ := hr
  obtain ⟨a, c, rfl, h1, h2, _⟩ := hh.open
  unfold Round.cells
  clear hh
  go_enter Tryz.func7, Tryz.ntmps7
  go_wp2
  go_ret
  exact ⟨rfl, (Ext.refl _).alloc _⟩
/-- The cells of a box of eight, and that they may be written. -/
theorem box8 {W : World} {b : Nat} {x0 x1 x2 x3 x4 x5 x6 x7 : Value} {t : TypeId} (h : W.heap[b]? = some (.cells #[x0, x1, x2, x3, x4, x5, x6, x7] t (0, 0))) :
    (W.cell? ⟨b, 0, none⟩ = some x0 ∧ W.cell? ⟨b, 1, none⟩ = some x1 ∧ W.cell? ⟨b, 2, none⟩ = some x2 ∧ W.cell? ⟨b, 3, none⟩ = some x3 ∧ W.cell? ⟨b, 4, none⟩ = some x4 ∧ W.cell? ⟨b, 5, none⟩ = some x5 ∧ W.cell? ⟨b, 6, none⟩ = some x6 ∧ W.cell? ⟨b, 7, none⟩ = some x7) ∧
    (W.frozen? ⟨b, 0, none⟩ = false ∧ W.frozen? ⟨b, 1, none⟩ = false ∧ W.frozen? ⟨b, 2, none⟩ = false ∧ W.frozen? ⟨b, 3, none⟩ = false ∧ W.frozen? ⟨b, 4, none⟩ = false ∧ W.frozen? ⟨b, 5, none⟩ = false ∧ W.frozen? ⟨b, 6, none⟩ = false ∧ W.frozen? ⟨b, 7, none⟩ = false) := by
  simp [World.cell?, World.frozen?, h]
theorem box8_end {W : World} {b : Nat} {x0 x1 x2 x3 x4 x5 x6 x7 : Value} {t : TypeId} (h : W.heap[b]? = some (.cells #[x0, x1, x2, x3, x4, x5, x6, x7] t (0, 0))) (y0 y1 y2 y3 y4 y5 y6 y7 : Value) :
    (((((((((W.setCell ⟨b, 0, none⟩ y0).setCell ⟨b, 1, none⟩ y1).setCell ⟨b, 2, none⟩ y2).setCell ⟨b, 3, none⟩ y3).setCell ⟨b, 4, none⟩ y4).setCell ⟨b, 5, none⟩ y5).setCell ⟨b, 6, none⟩ y6).setCell ⟨b, 7, none⟩ y7)).heap[b]? = some (.cells #[y0, y1, y2, y3, y4, y5, y6, y7] t (0, 0)) := by
  have s0 : (W.setCell ⟨b, 0, none⟩ y0).heap[b]? = some (.cells #[y0, x1, x2, x3, x4, x5, x6, x7] t (0, 0)) := setCell_block (i := 0) (v := y0) h
  have s1 : ((W.setCell ⟨b, 0, none⟩ y0).setCell ⟨b, 1, none⟩ y1).heap[b]? = some (.cells #[y0, y1, x2, x3, x4, x5, x6, x7] t (0, 0)) := setCell_block (i := 1) (v := y1) s0
  have s2 : (((W.setCell ⟨b, 0, none⟩ y0).setCell ⟨b, 1, none⟩ y1).setCell ⟨b, 2, none⟩ y2).heap[b]? = some (.cells #[y0, y1, y2, x3, x4, x5, x6, x7] t (0, 0)) := setCell_block (i := 2) (v := y2) s1
  have s3 : ((((W.setCell ⟨b, 0, none⟩ y0).setCell ⟨b, 1, none⟩ y1).setCell ⟨b, 2, none⟩ y2).setCell ⟨b, 3, none⟩ y3).heap[b]? = some (.cells #[y0, y1, y2, y3, x4, x5, x6, x7] t (0, 0)) := setCell_block (i := 3) (v := y3) s2
  have s4 : (((((W.setCell ⟨b, 0, none⟩ y0).setCell ⟨b, 1, none⟩ y1).setCell ⟨b, 2, none⟩ y2).setCell ⟨b, 3, none⟩ y3).setCell ⟨b, 4, none⟩ y4).heap[b]? = some (.cells #[y0, y1, y2, y3, y4, x5, x6, x7] t (0, 0)) := setCell_block (i := 4) (v := y4) s3
  have s5 : ((((((W.setCell ⟨b, 0, none⟩ y0).setCell ⟨b, 1, none⟩ y1).setCell ⟨b, 2, none⟩ y2).setCell ⟨b, 3, none⟩ y3).setCell ⟨b, 4, none⟩ y4).setCell ⟨b, 5, none⟩ y5).heap[b]? = some (.cells #[y0, y1, y2, y3, y4, y5, x6, x7] t (0, 0)) := setCell_block (i := 5) (v := y5) s4
  have s6 : (((((((W.setCell ⟨b, 0, none⟩ y0).setCell ⟨b, 1, none⟩ y1).setCell ⟨b, 2, none⟩ y2).setCell ⟨b, 3, none⟩ y3).setCell ⟨b, 4, none⟩ y4).setCell ⟨b, 5, none⟩ y5).setCell ⟨b, 6, none⟩ y6).heap[b]? = some (.cells #[y0, y1, y2, y3, y4, y5, y6, x7] t (0, 0)) := setCell_block (i := 6) (v := y6) s5
  have s7 : ((((((((W.setCell ⟨b, 0, none⟩ y0).setCell ⟨b, 1, none⟩ y1).setCell ⟨b, 2, none⟩ y2).setCell ⟨b, 3, none⟩ y3).setCell ⟨b, 4, none⟩ y4).setCell ⟨b, 5, none⟩ y5).setCell ⟨b, 6, none⟩ y6).setCell ⟨b, 7, none⟩ y7).heap[b]? = some (.cells #[y0, y1, y2, y3, y4, y5, y6, y7] t (0, 0)) := setCell_block (i := 7) (v := y7) s6
  exact s7
theorem box8_other {W : World} {b k : Nat} (hk : k ≠ b) (y0 y1 y2 y3 y4 y5 y6 y7 : Value) : (((((((((W.setCell ⟨b, 0, none⟩ y0).setCell ⟨b, 1, none⟩ y1).setCell ⟨b, 2, none⟩ y2).setCell ⟨b, 3, none⟩ y3).setCell ⟨b, 4, none⟩ y4).setCell ⟨b, 5, none⟩ y5).setCell ⟨b, 6, none⟩ y6).setCell ⟨b, 7, none⟩ y7)).heap[k]? = W.heap[k]? := by
  exact (Below.heap_setCell _ _ _ _ hk).trans ((Below.heap_setCell _ _ _ _ hk).trans ((Below.heap_setCell _ _ _ _ hk).trans ((Below.heap_setCell _ _ _ _ hk).trans ((Below.heap_setCell _ _ _ _ hk).trans ((Below.heap_setCell _ _ _ _ hk).trans ((Below.heap_setCell _ _ _ _ hk).trans (Below.heap_setCell _ _ _ _ hk)))))))
theorem box8_ext {w W : World} {b : Nat} (hx : Ext w W) (hb : w.heap.size ≤ b) (y0 y1 y2 y3 y4 y5 y6 y7 : Value) : Ext w (((((((((W.setCell ⟨b, 0, none⟩ y0).setCell ⟨b, 1, none⟩ y1).setCell ⟨b, 2, none⟩ y2).setCell ⟨b, 3, none⟩ y3).setCell ⟨b, 4, none⟩ y4).setCell ⟨b, 5, none⟩ y5).setCell ⟨b, 6, none⟩ y6).setCell ⟨b, 7, none⟩ y7)) :=
  (((((((hx.setCell hb _).setCell hb _).setCell hb _).setCell hb _).setCell hb _).setCell hb _).setCell hb _).setCell hb _
abbrev cells12 (a : Int) : Array Value := #[.int .i64 60, .int .i64 5, .int .i64 4, .int .i64 7, .int .i64 1, .int .i64 a, .int .i64 50, .int .i64 4, .int .i64 3, .int .i64 9, .int .i64 1, .int .i64 150]
set_option maxRecDepth 100000 in
set_option maxHeartbeats 2000000 in
theorem lR_any (w : World) : Calls Tryz.prog 25 #[] w fun e w' => ∃ hb, e = .returned (.agg #[.int .i64 12, .int .i64 2, .int .i64 3, .int .i64 5, .int .i64 4, .slice (some ⟨hb, 0, none⟩) 2 2, .int .i64 100, .int .i64 0]) ∧ Ext w w' ∧ w.heap.size ≤ hb ∧ w'.heap[hb]? = some (.cells (cells12 185) 31 (0, 0)) := by
  have hb0 := World.alloc_heap_new w (.cells #[.int .i64 0, .int .i64 0, .int .i64 0, .int .i64 0, .int .i64 0, .slice none 0 0, .int .i64 0, .int .i64 0] 26)
  have HB := Lib.hid hb0
  clear hb0
  go_enter Tryz.func25, Tryz.ntmps25
  go_wp2_with (go_at_call 36; refine (lspan_any 2 3 _).mono ?_; rintro e w1 ⟨rfl, hx1⟩; have hbx := Lib.hid ((Below.heap_alloc _ (.cells (cells12 185) 31) _ (Array.getElem?_eq_some_iff.1 ((hx1.block (by simp)).trans HB.out)).1).trans ((hx1.block (by simp)).trans HB.out)); obtain ⟨⟨f0, f1, f2, f3, f4, f5, f6, f7⟩, ⟨g0, g1, g2, g3, g4, g5, g6, g7⟩⟩ := box8 hbx.out)
  have hend := box8_end hbx.out (.int .i64 12) (.int .i64 2) (.int .i64 3) (.int .i64 5) (.int .i64 4) (.slice (some ⟨w1.heap.size, 0, none⟩) 2 2) (.int .i64 100) (.int .i64 0)
  have hxw : Ext w (w1.alloc (.cells (cells12 185) 31)) := (((Ext.refl w).alloc _).trans hx1).alloc _
  have hE := box8_ext hxw (Nat.le_refl _) (.int .i64 12) (.int .i64 2) (.int .i64 3) (.int .i64 5) (.int .i64 4) (.slice (some ⟨w1.heap.size, 0, none⟩) 2 2) (.int .i64 100) (.int .i64 0)
  have hlt : w.heap.size < w1.heap.size := by have := hx1.size; simp at this; omega
  have hO := (box8_other (W := w1.alloc (.cells (cells12 185) 31)) (k := w1.heap.size) (show w1.heap.size ≠ w.heap.size by omega) (.int .i64 12) (.int .i64 2) (.int .i64 3) (.int .i64 5) (.int .i64 4) (.slice (some ⟨w1.heap.size, 0, none⟩) 2 2) (.int .i64 100) (.int .i64 0)).trans (World.alloc_heap_new w1 _)
  obtain ⟨⟨d0, d1, d2, d3, d4, d5, d6, d7⟩, _⟩ := box8 hend
  generalize ((((((((w1.alloc (.cells (cells12 185) 31)).setCell ⟨w.heap.size, 0, none⟩ (.int .i64 12)).setCell ⟨w.heap.size, 1, none⟩ (.int .i64 2)).setCell ⟨w.heap.size, 2, none⟩ (.int .i64 3)).setCell ⟨w.heap.size, 3, none⟩ (.int .i64 5)).setCell ⟨w.heap.size, 4, none⟩ (.int .i64 4)).setCell ⟨w.heap.size, 5, none⟩ (.slice (some ⟨w1.heap.size, 0, none⟩) 2 2)).setCell ⟨w.heap.size, 6, none⟩ (.int .i64 100)).setCell ⟨w.heap.size, 7, none⟩ (.int .i64 0) = W3 at hE hO d0 d1 d2 d3 d4 d5 d6 d7 ⊢
  exact bodyPost_ret (v := .agg #[.int .i64 12, .int .i64 2, .int .i64 3, .int .i64 5, .int .i64 4, .slice (some ⟨w1.heap.size, 0, none⟩) 2 2, .int .i64 100, .int .i64 0]) (by simp [results, Tryz.f25, go_sem, d0, d1, d2, d3, d4, d5, d6, d7]) rfl ⟨_, rfl, hE, by omega, hO⟩
def cC : Roads := ⟨[4, 3, 5], 8, [[0, 2, 9, 5], [2, 0, 3, 9], [9, 3, 0, 4], [5, 9, 4, 0]]⟩
def kK : List Kind := [⟨24, 2⟩, ⟨12, 3⟩, ⟨5, 4⟩]
theorem lK_any (w : World) : Calls Tryz.prog 35 #[] w fun e w' => ∃ v, e = .returned v ∧ Ext w w' ∧ KindsAt w' v kK := by
  go_enter Tryz.func35, Tryz.ntmps35
  go_wp2
  go_ret
  refine ⟨_, rfl, (Ext.refl _).alloc _, ?_⟩
  exact RowAt.new _ _ _ 3 3 (Nat.le_refl _) (by unfold maxLen; omega)
theorem keep_alloc {W : World} {k : Nat} {o X : Obj} (h : W.heap[k]? = some X) : (W.alloc o).heap[k]? = some X := (Below.heap_alloc _ _ _ (Array.getElem?_eq_some_iff.1 h).1).trans h
theorem new_at (W : World) (X : Obj) (n : Nat) (hn : W.heap.size = n) : (W.alloc X).heap[n]? = some X := hn ▸ World.alloc_heap_new W X
theorem seven_new (w : World) (X0 X1 X2 X3 X4 X5 X6 : Obj) : (((((((w.alloc X0).alloc X1).alloc X2).alloc X3).alloc X4).alloc X5).alloc X6).heap[w.heap.size]? = some X0 ∧ (((((((w.alloc X0).alloc X1).alloc X2).alloc X3).alloc X4).alloc X5).alloc X6).heap[w.heap.size + 1]? = some X1 ∧ (((((((w.alloc X0).alloc X1).alloc X2).alloc X3).alloc X4).alloc X5).alloc X6).heap[w.heap.size + 1 + 1]? = some X2 ∧ (((((((w.alloc X0).alloc X1).alloc X2).alloc X3).alloc X4).alloc X5).alloc X6).heap[w.heap.size + 1 + 1 + 1]? = some X3 ∧ (((((((w.alloc X0).alloc X1).alloc X2).alloc X3).alloc X4).alloc X5).alloc X6).heap[w.heap.size + 1 + 1 + 1 + 1]? = some X4 ∧ (((((((w.alloc X0).alloc X1).alloc X2).alloc X3).alloc X4).alloc X5).alloc X6).heap[w.heap.size + 1 + 1 + 1 + 1 + 1]? = some X5 ∧ (((((((w.alloc X0).alloc X1).alloc X2).alloc X3).alloc X4).alloc X5).alloc X6).heap[w.heap.size + 1 + 1 + 1 + 1 + 1 + 1]? = some X6 := by
  have s1 : (w.alloc X0).heap.size = w.heap.size + 1 := by rw [World.size_alloc]
  have s2 : ((w.alloc X0).alloc X1).heap.size = w.heap.size + 1 + 1 := by rw [World.size_alloc, s1]
  have s3 : (((w.alloc X0).alloc X1).alloc X2).heap.size = w.heap.size + 1 + 1 + 1 := by rw [World.size_alloc, s2]
  have s4 : ((((w.alloc X0).alloc X1).alloc X2).alloc X3).heap.size = w.heap.size + 1 + 1 + 1 + 1 := by rw [World.size_alloc, s3]
  have s5 : (((((w.alloc X0).alloc X1).alloc X2).alloc X3).alloc X4).heap.size = w.heap.size + 1 + 1 + 1 + 1 + 1 := by rw [World.size_alloc, s4]
  have s6 : ((((((w.alloc X0).alloc X1).alloc X2).alloc X3).alloc X4).alloc X5).heap.size = w.heap.size + 1 + 1 + 1 + 1 + 1 + 1 := by rw [World.size_alloc, s5]
  exact ⟨keep_alloc (keep_alloc (keep_alloc (keep_alloc (keep_alloc (keep_alloc (new_at w X0 _ rfl)))))), keep_alloc (keep_alloc (keep_alloc (keep_alloc (keep_alloc (new_at (w.alloc X0) X1 _ s1))))), keep_alloc (keep_alloc (keep_alloc (keep_alloc (new_at ((w.alloc X0).alloc X1) X2 _ s2)))), keep_alloc (keep_alloc (keep_alloc (new_at (((w.alloc X0).alloc X1).alloc X2) X3 _ s3))), keep_alloc (keep_alloc (new_at ((((w.alloc X0).alloc X1).alloc X2).alloc X3) X4 _ s4)), keep_alloc (new_at (((((w.alloc X0).alloc X1).alloc X2).alloc X3).alloc X4) X5 _ s5), new_at ((((((w.alloc X0).alloc X1).alloc X2).alloc X3).alloc X4).alloc X5) X6 _ s6⟩
theorem row_block {W : World} {b n : Nat} {cs : Array Value} {e : TypeId} (h : W.heap[b]? = some (.cells cs e (0, 0))) (hn : n ≤ maxLen) : RowAt W (.slice (some ⟨b, 0, none⟩) n n) n cs.toList :=
  ⟨_, n, rfl, Nat.le_refl _, hn, (fun h => by cases h), fun j u hj => ⟨b, 0, rfl, by simp only [World.cell?, h, Nat.zero_add]; simpa using hj⟩⟩
set_option maxRecDepth 100000 in
set_option maxHeartbeats 2000000 in
theorem lC_any (w : World) : Calls Tryz.prog 32 #[] w fun e w' => ∃ v, e = .returned v ∧ Ext w w' ∧ RoadsAt w' v cC := by
  go_enter Tryz.func32, Tryz.ntmps32
  go_wp2
  obtain ⟨h0, h1, h2, h3, h4, h5, h6⟩ := seven_new w (.cells #[.slice (some ⟨w.heap.size + 1, 0, none⟩) 3 3, .int .i64 8, .slice (some ⟨w.heap.size + 1 + 1 + 1 + 1 + 1 + 1, 0, none⟩) 4 4] 69) (.cells #[.int .i64 4, .int .i64 3, .int .i64 5] 3) (.cells #[.int .i64 0, .int .i64 2, .int .i64 9, .int .i64 5] 3) (.cells #[.int .i64 2, .int .i64 0, .int .i64 3, .int .i64 9] 3) (.cells #[.int .i64 9, .int .i64 3, .int .i64 0, .int .i64 4] 3) (.cells #[.int .i64 5, .int .i64 9, .int .i64 4, .int .i64 0] 3) (.cells #[.slice (some ⟨w.heap.size + 1 + 1, 0, none⟩) 4 4, .slice (some ⟨w.heap.size + 1 + 1 + 1, 0, none⟩) 4 4, .slice (some ⟨w.heap.size + 1 + 1 + 1 + 1, 0, none⟩) 4 4, .slice (some ⟨w.heap.size + 1 + 1 + 1 + 1 + 1, 0, none⟩) 4 4] 33)
  have hE : Ext w (((((((w.alloc (.cells #[.slice (some ⟨w.heap.size + 1, 0, none⟩) 3 3, .int .i64 8, .slice (some ⟨w.heap.size + 1 + 1 + 1 + 1 + 1 + 1, 0, none⟩) 4 4] 69)).alloc (.cells #[.int .i64 4, .int .i64 3, .int .i64 5] 3)).alloc (.cells #[.int .i64 0, .int .i64 2, .int .i64 9, .int .i64 5] 3)).alloc (.cells #[.int .i64 2, .int .i64 0, .int .i64 3, .int .i64 9] 3)).alloc (.cells #[.int .i64 9, .int .i64 3, .int .i64 0, .int .i64 4] 3)).alloc (.cells #[.int .i64 5, .int .i64 9, .int .i64 4, .int .i64 0] 3)).alloc (.cells #[.slice (some ⟨w.heap.size + 1 + 1, 0, none⟩) 4 4, .slice (some ⟨w.heap.size + 1 + 1 + 1, 0, none⟩) 4 4, .slice (some ⟨w.heap.size + 1 + 1 + 1 + 1, 0, none⟩) 4 4, .slice (some ⟨w.heap.size + 1 + 1 + 1 + 1 + 1, 0, none⟩) 4 4] 33)) := ((((((((Ext.refl w).alloc _).alloc _).alloc _).alloc _).alloc _).alloc _).alloc _)
  generalize (((((((w.alloc (.cells #[.slice (some ⟨w.heap.size + 1, 0, none⟩) 3 3, .int .i64 8, .slice (some ⟨w.heap.size + 1 + 1 + 1 + 1 + 1 + 1, 0, none⟩) 4 4] 69)).alloc (.cells #[.int .i64 4, .int .i64 3, .int .i64 5] 3)).alloc (.cells #[.int .i64 0, .int .i64 2, .int .i64 9, .int .i64 5] 3)).alloc (.cells #[.int .i64 2, .int .i64 0, .int .i64 3, .int .i64 9] 3)).alloc (.cells #[.int .i64 9, .int .i64 3, .int .i64 0, .int .i64 4] 3)).alloc (.cells #[.int .i64 5, .int .i64 9, .int .i64 4, .int .i64 0] 3)).alloc (.cells #[.slice (some ⟨w.heap.size + 1 + 1, 0, none⟩) 4 4, .slice (some ⟨w.heap.size + 1 + 1 + 1, 0, none⟩) 4 4, .slice (some ⟨w.heap.size + 1 + 1 + 1 + 1, 0, none⟩) 4 4, .slice (some ⟨w.heap.size + 1 + 1 + 1 + 1 + 1, 0, none⟩) 4 4] 33)) = W7 at *
  have d0 : W7.cell? ⟨w.heap.size, 0, none⟩ = some (.slice (some ⟨w.heap.size + 1, 0, none⟩) 3 3) := by simp [World.cell?, h0]
  have d1 : W7.cell? ⟨w.heap.size, 1, none⟩ = some (.int .i64 8) := by simp [World.cell?, h0]
  have d2 : W7.cell? ⟨w.heap.size, 2, none⟩ = some (.slice (some ⟨w.heap.size + 1 + 1 + 1 + 1 + 1 + 1, 0, none⟩) 4 4) := by simp [World.cell?, h0]
  have hm : 4 ≤ maxLen := by unfold maxLen; omega
  have i1 : IntsAt W7 (.slice (some ⟨w.heap.size + 1, 0, none⟩) 3 3) [4, 3, 5] := row_block h1 (by omega)
  have i2 : IntsAt W7 (.slice (some ⟨w.heap.size + 1 + 1, 0, none⟩) 4 4) [0, 2, 9, 5] := row_block h2 hm
  have i3 : IntsAt W7 (.slice (some ⟨w.heap.size + 1 + 1 + 1, 0, none⟩) 4 4) [2, 0, 3, 9] := row_block h3 hm
  have i4 : IntsAt W7 (.slice (some ⟨w.heap.size + 1 + 1 + 1 + 1, 0, none⟩) 4 4) [9, 3, 0, 4] := row_block h4 hm
  have i5 : IntsAt W7 (.slice (some ⟨w.heap.size + 1 + 1 + 1 + 1 + 1, 0, none⟩) 4 4) [5, 9, 4, 0] := row_block h5 hm
  have i6 : RowsAt W7 (.slice (some ⟨w.heap.size + 1 + 1 + 1 + 1 + 1 + 1, 0, none⟩) 4 4) [[0, 2, 9, 5], [2, 0, 3, 9], [9, 3, 0, 4], [5, 9, 4, 0]] := by
    refine ⟨_, rfl, row_block h6 hm, fun i x xs hx hxs => ?_⟩
    match i, hx, hxs with
    | 0, hx, hxs => cases hx; cases hxs; exact i2
    | 1, hx, hxs => cases hx; cases hxs; exact i3
    | 2, hx, hxs => cases hx; cases hxs; exact i4
    | 3, hx, hxs => cases hx; cases hxs; exact i5
    | i + 4, hx, hxs => simp at hx
  clear h0 h1 h2 h3 h4 h5 h6
  exact bodyPost_ret (v := .agg #[.slice (some ⟨w.heap.size + 1, 0, none⟩) 3 3, .int .i64 8, .slice (some ⟨w.heap.size + 1 + 1 + 1 + 1 + 1 + 1, 0, none⟩) 4 4]) (by simp [results, Tryz.f32, go_sem, d0, d1, d2]) rfl ⟨_, rfl, hE, _, _, rfl, i1, i6⟩
theorem round_of_cells {W : World} {hb : Nat} {x a : Int} (h : W.heap[hb]? = some (.cells (cells12 x) 31 (0, 0))) : RoundAt W (.agg #[.int .i64 12, .int .i64 2, .int .i64 3, .int .i64 5, .int .i64 4, .slice (some ⟨hb, 0, none⟩) 2 2, .int .i64 a, .int .i64 0]) ⟨12, 2, 3, 5, 4, [⟨60, 5, 4, 7, 1, x⟩, ⟨50, 4, 3, 9, 1, 150⟩], a, 0⟩ :=
  ⟨_, rfl, row_block (n := 2) h (by unfold maxLen; omega)⟩
set_option maxRecDepth 100000 in
set_option maxHeartbeats 2000000 in
theorem lQ_any (w : World) : Calls Tryz.prog 26 #[] w fun e w' => ∃ hb, e = .returned (.agg #[.int .i64 12, .int .i64 2, .int .i64 3, .int .i64 5, .int .i64 4, .slice (some ⟨hb, 0, none⟩) 2 2, .int .i64 91, .int .i64 0]) ∧ Ext w w' ∧ w.heap.size ≤ hb ∧ w'.heap[hb]? = some (.cells (cells12 149) 31 (0, 0)) := by
  have hb0 := World.alloc_heap_new w (.cells #[.int .i64 0, .int .i64 0, .int .i64 0, .int .i64 0, .int .i64 0, .slice none 0 0, .int .i64 0, .int .i64 0] 26)
  have HB := Lib.hid hb0
  clear hb0
  go_enter Tryz.func26, Tryz.ntmps26
  go_upto_region 2 with (go_at_call 25; refine (lR_any _).mono ?_; rintro e w1 ⟨hb, rfl, hx1, hle, hhb⟩; have HH := Lib.hid hhb; clear hhb)
  have hA := Lib.hid (keep_alloc (o := (.cells #[.int .i64 12, .int .i64 2, .int .i64 3, .int .i64 5, .int .i64 4, .slice (some ⟨hb, 0, none⟩) 2 2, .int .i64 100, .int .i64 0] 26)) HH.out)
  have hBx := Lib.hid (World.alloc_heap_new w1 (.cells #[.int .i64 12, .int .i64 2, .int .i64 3, .int .i64 5, .int .i64 4, .slice (some ⟨hb, 0, none⟩) 2 2, .int .i64 100, .int .i64 0] 26))
  have h0 := Lib.hid (keep_alloc (o := (.cells #[.int .i64 12, .int .i64 2, .int .i64 3, .int .i64 5, .int .i64 4, .slice (some ⟨hb, 0, none⟩) 2 2, .int .i64 100, .int .i64 0] 26)) ((hx1.block (by simp)).trans HB.out))
  have hE := Lib.hid ((((Ext.refl w).alloc _).trans hx1).alloc (.cells #[.int .i64 12, .int .i64 2, .int .i64 3, .int .i64 5, .int .i64 4, .slice (some ⟨hb, 0, none⟩) 2 2, .int .i64 100, .int .i64 0] 26))
  have hm : w.heap.size < w1.heap.size := by have := hx1.size; simp at this; omega
  have hhm : hb < w1.heap.size := (Array.getElem?_eq_some_iff.1 HH.out).1
  have hle' : w.heap.size < hb := by simp at hle; omega
  clear HH hx1 hle HB
  generalize w1.alloc (.cells #[.int .i64 12, .int .i64 2, .int .i64 3, .int .i64 5, .int .i64 4, .slice (some ⟨hb, 0, none⟩) 2 2, .int .i64 100, .int .i64 0] 26) = W1 at *
  generalize w1.heap.size = m at *
  have hA2 := Lib.hid (setCell_block (i := 5) (v := .int .i64 149) hA.out)
  have hB2 := Lib.hid ((Below.heap_setCell W1 ⟨hb, 5, none⟩ (.int .i64 149) m (by simp; omega)).trans hBx.out)
  have h02 := Lib.hid ((Below.heap_setCell W1 ⟨hb, 5, none⟩ (.int .i64 149) w.heap.size (by simp; omega)).trans h0.out)
  have hB3 : Hid (((W1.setCell ⟨hb, 5, none⟩ (.int .i64 149)).setCell ⟨m, 6, none⟩ (.int .i64 91)).heap[m]? = some (.cells #[.int .i64 12, .int .i64 2, .int .i64 3, .int .i64 5, .int .i64 4, .slice (some ⟨hb, 0, none⟩) 2 2, .int .i64 91, .int .i64 0] 26 (0, 0))) := Lib.hid (setCell_block (i := 6) (v := .int .i64 91) hB2.out)
  have hA3 : Hid (((W1.setCell ⟨hb, 5, none⟩ (.int .i64 149)).setCell ⟨m, 6, none⟩ (.int .i64 91)).heap[hb]? = some (.cells (cells12 149) 31 (0, 0))) := Lib.hid ((Below.heap_setCell _ ⟨m, 6, none⟩ (.int .i64 91) hb (by simp; omega)).trans hA2.out)
  have h03 := Lib.hid ((Below.heap_setCell _ ⟨m, 6, none⟩ (.int .i64 91) w.heap.size (by simp; omega)).trans h02.out)
  have hE3 : Hid (Ext w ((W1.setCell ⟨hb, 5, none⟩ (.int .i64 149)).setCell ⟨m, 6, none⟩ (.int .i64 91))) := (hE.out.setCell (p := ⟨hb, 5, none⟩) (show w.heap.size ≤ hb by omega) _).setCell (p := ⟨m, 6, none⟩) (show w.heap.size ≤ m by omega) _
  have p5 : W1.cell? ⟨hb, 5, none⟩ = some (.int .i64 185) := by have h := hA.out; simp [World.cell?, h]
  have f5 : W1.frozen? ⟨hb, 5, none⟩ = false := by have h := hA.out; simp [World.frozen?, h]
  have p6 := (box8 hBx.out).1.2.2.2.2.2.1
  have q6 := (box8 hB2.out).1.2.2.2.2.2.2.1
  have f6 := (box8 hB2.out).2.2.2.2.2.2.2.1
  obtain ⟨⟨a0, a1, a2, a3, a4, a5, a6, a7⟩, _⟩ := box8 hB3.out
  obtain ⟨⟨b0, b1, b2, b3, b4, b5, b6, b7⟩, ⟨c0, c1, c2, c3, c4, c5, c6, c7⟩⟩ := box8 h03.out
  go_wp2
  have hend := box8_end h03.out (.int .i64 12) (.int .i64 2) (.int .i64 3) (.int .i64 5) (.int .i64 4) (.slice (some ⟨hb, 0, none⟩) 2 2) (.int .i64 91) (.int .i64 0)
  have hEE := box8_ext hE3.out (Nat.le_refl _) (.int .i64 12) (.int .i64 2) (.int .i64 3) (.int .i64 5) (.int .i64 4) (.slice (some ⟨hb, 0, none⟩) 2 2) (.int .i64 91) (.int .i64 0)
  have hOO := (box8_other (W := ((W1.setCell ⟨hb, 5, none⟩ (.int .i64 149)).setCell ⟨m, 6, none⟩ (.int .i64 91))) (k := hb) (show hb ≠ w.heap.size by omega) (.int .i64 12) (.int .i64 2) (.int .i64 3) (.int .i64 5) (.int .i64 4) (.slice (some ⟨hb, 0, none⟩) 2 2) (.int .i64 91) (.int .i64 0)).trans hA3.out
  obtain ⟨⟨d0, d1, d2, d3, d4, d5, d6, d7⟩, _⟩ := box8 hend
  generalize ((((((((((W1.setCell ⟨hb, 5, none⟩ (.int .i64 149)).setCell ⟨m, 6, none⟩ (.int .i64 91)).setCell ⟨w.heap.size, 0, none⟩ (.int .i64 12)).setCell ⟨w.heap.size, 1, none⟩ (.int .i64 2)).setCell ⟨w.heap.size, 2, none⟩ (.int .i64 3)).setCell ⟨w.heap.size, 3, none⟩ (.int .i64 5)).setCell ⟨w.heap.size, 4, none⟩ (.int .i64 4)).setCell ⟨w.heap.size, 5, none⟩ (.slice (some ⟨hb, 0, none⟩) 2 2)).setCell ⟨w.heap.size, 6, none⟩ (.int .i64 91)).setCell ⟨w.heap.size, 7, none⟩ (.int .i64 0)) = W9 at hEE hOO d0 d1 d2 d3 d4 d5 d6 d7 ⊢
  exact bodyPost_ret (v := .agg #[.int .i64 12, .int .i64 2, .int .i64 3, .int .i64 5, .int .i64 4, .slice (some ⟨hb, 0, none⟩) 2 2, .int .i64 91, .int .i64 0]) (by simp [results, Tryz.f26, go_sem, d0, d1, d2, d3, d4, d5, d6, d7]) rfl ⟨_, rfl, hEE, by omega, hOO⟩
end Go.Proofs.YtbeophjdiddomaaGreatDoor

/- What the specification says of the document's examples: by reckoning. -/
namespace Go.Proofs.YtbeophjdiddomaaGreatDoor

theorem ev_R : isRoundB rR = true := by decide +kernel
theorem ev_Q : isRoundB rQ = true := by decide +kernel
theorem ev_agR : agreeB rR (-1) = true := by decide +kernel
theorem ev_agQ : agreeB rQ (-1) = false := by decide +kernel
theorem ev_agQ0 : agreeB rQ 0 = true := by decide +kernel
theorem ev_known : knownL rR = [(54, 56), (44, 46)] := by decide +kernel
theorem ev_wrong : wrongL rQ = [0] := by decide +kernel
theorem ev_mends : spanOf (houseL rQ 0 0) = (45, 46) := by decide +kernel
theorem ev_due : dueL rR 10 [89, 99] = [(0, 10), (0, 10)] := by decide +kernel
theorem ev_kept : keptOk rR 10 [89, 99] = true := by decide +kernel
theorem ev_pay : payGo 10 100 [50, 94, 50] = ([10, 0, 10], 6) := by decide +kernel
theorem ev_payOk : payOk 10 100 [50, 94, 50] = true := by decide +kernel
theorem ev_roads : isRoadsB cC = true := by decide +kernel
theorem ev_stops : badStops cC [1, 2] = false := by decide +kernel
theorem ev_loads : ∀ x, x ∈ ordersOf [1, 2] → loadOf cC x ≤ cC.bears := by decide +kernel
theorem ev_tour : bestTour cC [1, 2] = some [1, 2] := by decide +kernel
theorem ev_tourL : lengthOf cC [1, 2] = 14 := by decide +kernel
theorem ev_fill : fillOf kK 53 = some ([2, 0, 1], 3) := by decide +kernel
theorem ev_kinds : isKindsB kK = true := by decide +kernel
theorem ev_max : ¬ cC.bears < maxL cC.loads := by decide +kernel
theorem ev_planL : planLen cC [[1], [2, 3]] = 22 := by decide +kernel

/-! ### The plan -/
def insL (x : List Int) : List (List Int) → List (List Int)
  | [] => [x]
  | y :: l => if leL x y then x :: y :: l else y :: insL x l
def isortL (l : List (List Int)) : List (List Int) := l.foldr insL []
theorem insL_perm (x : List Int) : ∀ l, (insL x l).Perm (x :: l)
  | [] => List.Perm.refl _
  | y :: l => by
    unfold insL
    split
    · exact List.Perm.refl _
    · exact ((insL_perm x l).cons y).trans (List.Perm.swap x y l)
theorem insL_sorted (x : List Int) : ∀ {l : List (List Int)}, l.Pairwise (fun a b => leL a b = true) → (insL x l).Pairwise (fun a b => leL a b = true)
  | [], _ => by simp [insL]
  | y :: l, h => by
    have hy := List.pairwise_cons.1 h
    unfold insL
    split
    · rename_i hxy
      exact List.pairwise_cons.2 ⟨fun z hz => by
        rcases List.mem_cons.1 hz with rfl | hz
        · exact hxy
        · exact leL_trans x y z hxy (hy.1 z hz), h⟩
    · rename_i hxy
      have hyx : leL y x = true := by
        have := leL_total x y
        simp only [Bool.or_eq_true] at this
        exact this.resolve_left hxy
      refine List.pairwise_cons.2 ⟨fun z hz => ?_, insL_sorted x hy.2⟩
      rcases List.mem_cons.1 ((insL_perm x l).mem_iff.1 hz) with rfl | hz
      · exact hyx
      · exact hy.1 z hz
theorem isortL_perm : ∀ l : List (List Int), (isortL l).Perm l
  | [] => List.Perm.refl _
  | x :: l => (insL_perm x _).trans ((isortL_perm l).cons x)
theorem isortL_sorted : ∀ l : List (List Int), (isortL l).Pairwise (fun a b => leL a b = true)
  | [] => List.Pairwise.nil
  | x :: l => insL_sorted x (isortL_sorted l)
theorem sortL_isort (l : List (List Int)) : sortL l = isortL l := (sortL_eq (isortL_perm l) (isortL_sorted l)).symm
theorem ev_plan : bestPlan cC = some [[1], [2, 3]] := by
  have h : plansOf cC = (partsOf cC).map fun x => isortL (x.map (tourOf cC)) := by
    unfold plansOf planOf; exact List.map_congr_left (fun x _ => sortL_isort _)
  unfold bestPlan
  rw [h]
  decide +kernel

/-! ### The text -/
def decF : Nat → Nat → List UInt8
  | 0, _ => []
  | f + 1, u => if u < 10 then [UInt8.ofNat (48 + u)] else decF f (u / 10) ++ [UInt8.ofNat (48 + u % 10)]
theorem decF_eq : ∀ (f u : Nat), 1 ≤ f → u < 10 ^ f → Lib.decDigits u = decF f u
  | f + 1, u, _, hu => by
    rw [Lib.decDigits, decF]
    by_cases h : u < 10
    · rw [dif_pos h, if_pos h]
    · rw [dif_neg h, if_neg h]
      have hf : 1 ≤ f := by
        cases f with
        | zero => simp at hu; omega
        | succ f => omega
      rw [decF_eq f (u / 10) hf (by rw [Nat.pow_succ] at hu; omega)]
def itoaC (n : Int) : List UInt8 := if n < 0 then 45 :: decF 10 n.natAbs else decF 10 n.toNat
theorem itoa_c {n : Int} (h0 : -1000000 ≤ n) (h1 : n ≤ 1000000) : Lib.itoa n = itoaC n := by
  unfold Lib.itoa itoaC
  rw [decF_eq 10 n.natAbs (by omega) (by omega), decF_eq 10 n.toNat (by omega) (by omega)]
def numsC (ns : List Int) : List UInt8 := ns.flatMap fun n => 32 :: itoaC n
theorem numsT_c : ∀ {ns : List Int}, (∀ y, y ∈ ns → -1000000 ≤ y ∧ y ≤ 1000000) → numsT ns = numsC ns
  | [], _ => rfl
  | x :: ns, h => by
    have h1 := h x (by simp)
    have h2 := numsT_c (ns := ns) (fun y hy => h y (by simp [hy]))
    have h3 : numsT (x :: ns) = (32 :: Lib.itoa x) ++ numsT ns := by simp [numsT]
    have h4 : numsC (x :: ns) = (32 :: itoaC x) ++ numsC ns := by simp [numsC]
    rw [h3, h4, h2, itoa_c h1.1 h1.2]
theorem ev_lines : linesT rR = [[114, 111, 117, 110, 100, 32, 49, 50, 32, 50], [119, 101, 105, 103, 104, 32, 50, 32, 51, 32, 53, 32, 52], [104, 111, 117, 115, 101, 32, 54, 48, 32, 53, 32, 52, 32, 55, 32, 49, 32, 49, 56, 53], [104, 111, 117, 115, 101, 32, 53, 48, 32, 52, 32, 51, 32, 57, 32, 49, 32, 49, 53, 48], [97, 108, 108, 32, 49, 48, 48, 32, 48]] := by
  unfold linesT lineT
  simp only [rR, List.map_cons, List.map_nil, House.nums, List.length_cons, List.length_nil]
  rw [numsT_c (by decide), numsT_c (by decide), numsT_c (by decide), numsT_c (by decide), numsT_c (by decide)]
  decide +kernel
theorem ev_text : textT rR = [114, 111, 117, 110, 100, 32, 49, 50, 32, 50, 10, 119, 101, 105, 103, 104, 32, 50, 32, 51, 32, 53, 32, 52, 10, 104, 111, 117, 115, 101, 32, 54, 48, 32, 53, 32, 52, 32, 55, 32, 49, 32, 49, 56, 53, 10, 104, 111, 117, 115, 101, 32, 53, 48, 32, 52, 32, 51, 32, 57, 32, 49, 32, 49, 53, 48, 10, 97, 108, 108, 32, 49, 48, 48, 32, 48, 10, 101, 110, 100, 32, 48, 50, 57, 10] := by
  unfold textT
  rw [ev_lines, show checkT [[114, 111, 117, 110, 100, 32, 49, 50, 32, 50], [119, 101, 105, 103, 104, 32, 50, 32, 51, 32, 53, 32, 52], [104, 111, 117, 115, 101, 32, 54, 48, 32, 53, 32, 52, 32, 55, 32, 49, 32, 49, 56, 53], [104, 111, 117, 115, 101, 32, 53, 48, 32, 52, 32, 51, 32, 57, 32, 49, 32, 49, 53, 48], [97, 108, 108, 32, 49, 48, 48, 32, 48]] = 29 by decide +kernel]
  unfold endT
  rw [itoa_c (by decide) (by decide), itoa_c (by decide) (by decide), itoa_c (by decide) (by decide)]
  decide +kernel
end Go.Proofs.YtbeophjdiddomaaGreatDoor
