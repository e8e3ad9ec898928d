/- card.Read: the deferred closure, and the ways out. -/
import Derived.Test.YtbeophjdiddomaaGreatDoorReadp
import Derived.Test.YtbeophjdiddomaaGreatDoorTour
import Derived.Deep.MidRow
namespace Go.Proofs.YtbeophjdiddomaaGreatDoor
open Go.RowKit

abbrev zR : Value := .agg #[.int .i64 0, .int .i64 0, .int .i64 0, .int .i64 0, .int .i64 0, .slice none 0 0, .int .i64 0, .int .i64 0]
/-- A round's box is written over, cell by cell. -/
theorem box_steps {W : World} {b : Nat} {t : TypeId} {c0 c1 c2 c3 c4 c5 c6 c7 : Value} (h : W.heap[b]? = some (.cells #[c0, c1, c2, c3, c4, c5, c6, c7] t (0, 0))) (v0 v1 v2 v3 v4 v5 v6 v7 : Value) :
    (W.cell? ⟨b, 0, none⟩ = some c0 ∧ W.frozen? ⟨b, 0, none⟩ = false) ∧
    ((W.setCell ⟨b, 0, none⟩ v0).cell? ⟨b, 1, none⟩ = some c1 ∧ (W.setCell ⟨b, 0, none⟩ v0).frozen? ⟨b, 1, none⟩ = false) ∧
    (((W.setCell ⟨b, 0, none⟩ v0).setCell ⟨b, 1, none⟩ v1).cell? ⟨b, 2, none⟩ = some c2 ∧ ((W.setCell ⟨b, 0, none⟩ v0).setCell ⟨b, 1, none⟩ v1).frozen? ⟨b, 2, none⟩ = false) ∧
    ((((W.setCell ⟨b, 0, none⟩ v0).setCell ⟨b, 1, none⟩ v1).setCell ⟨b, 2, none⟩ v2).cell? ⟨b, 3, none⟩ = some c3 ∧ (((W.setCell ⟨b, 0, none⟩ v0).setCell ⟨b, 1, none⟩ v1).setCell ⟨b, 2, none⟩ v2).frozen? ⟨b, 3, none⟩ = false) ∧
    (((((W.setCell ⟨b, 0, none⟩ v0).setCell ⟨b, 1, none⟩ v1).setCell ⟨b, 2, none⟩ v2).setCell ⟨b, 3, none⟩ v3).cell? ⟨b, 4, none⟩ = some c4 ∧ ((((W.setCell ⟨b, 0, none⟩ v0).setCell ⟨b, 1, none⟩ v1).setCell ⟨b, 2, none⟩ v2).setCell ⟨b, 3, none⟩ v3).frozen? ⟨b, 4, none⟩ = false) ∧
    ((((((W.setCell ⟨b, 0, none⟩ v0).setCell ⟨b, 1, none⟩ v1).setCell ⟨b, 2, none⟩ v2).setCell ⟨b, 3, none⟩ v3).setCell ⟨b, 4, none⟩ v4).cell? ⟨b, 5, none⟩ = some c5 ∧ (((((W.setCell ⟨b, 0, none⟩ v0).setCell ⟨b, 1, none⟩ v1).setCell ⟨b, 2, none⟩ v2).setCell ⟨b, 3, none⟩ v3).setCell ⟨b, 4, none⟩ v4).frozen? ⟨b, 5, none⟩ = false) ∧
    (((((((W.setCell ⟨b, 0, none⟩ v0).setCell ⟨b, 1, none⟩ v1).setCell ⟨b, 2, none⟩ v2).setCell ⟨b, 3, none⟩ v3).setCell ⟨b, 4, none⟩ v4).setCell ⟨b, 5, none⟩ v5).cell? ⟨b, 6, none⟩ = some c6 ∧ ((((((W.setCell ⟨b, 0, none⟩ v0).setCell ⟨b, 1, none⟩ v1).setCell ⟨b, 2, none⟩ v2).setCell ⟨b, 3, none⟩ v3).setCell ⟨b, 4, none⟩ v4).setCell ⟨b, 5, none⟩ v5).frozen? ⟨b, 6, none⟩ = false) ∧
    ((((((((W.setCell ⟨b, 0, none⟩ v0).setCell ⟨b, 1, none⟩ v1).setCell ⟨b, 2, none⟩ v2).setCell ⟨b, 3, none⟩ v3).setCell ⟨b, 4, none⟩ v4).setCell ⟨b, 5, none⟩ v5).setCell ⟨b, 6, none⟩ v6).cell? ⟨b, 7, none⟩ = some c7 ∧ (((((((W.setCell ⟨b, 0, none⟩ v0).setCell ⟨b, 1, none⟩ v1).setCell ⟨b, 2, none⟩ v2).setCell ⟨b, 3, none⟩ v3).setCell ⟨b, 4, none⟩ v4).setCell ⟨b, 5, none⟩ v5).setCell ⟨b, 6, none⟩ v6).frozen? ⟨b, 7, none⟩ = false) := by
  have s0 : (W.setCell ⟨b, 0, none⟩ v0).heap[b]? = some (.cells #[v0, c1, c2, c3, c4, c5, c6, c7] t (0, 0)) := setCell_block (i := 0) (v := v0) h
  have s1 : ((W.setCell ⟨b, 0, none⟩ v0).setCell ⟨b, 1, none⟩ v1).heap[b]? = some (.cells #[v0, v1, c2, c3, c4, c5, c6, c7] t (0, 0)) := setCell_block (i := 1) (v := v1) s0
  have s2 : (((W.setCell ⟨b, 0, none⟩ v0).setCell ⟨b, 1, none⟩ v1).setCell ⟨b, 2, none⟩ v2).heap[b]? = some (.cells #[v0, v1, v2, c3, c4, c5, c6, c7] t (0, 0)) := setCell_block (i := 2) (v := v2) s1
  have s3 : ((((W.setCell ⟨b, 0, none⟩ v0).setCell ⟨b, 1, none⟩ v1).setCell ⟨b, 2, none⟩ v2).setCell ⟨b, 3, none⟩ v3).heap[b]? = some (.cells #[v0, v1, v2, v3, c4, c5, c6, c7] t (0, 0)) := setCell_block (i := 3) (v := v3) s2
  have s4 : (((((W.setCell ⟨b, 0, none⟩ v0).setCell ⟨b, 1, none⟩ v1).setCell ⟨b, 2, none⟩ v2).setCell ⟨b, 3, none⟩ v3).setCell ⟨b, 4, none⟩ v4).heap[b]? = some (.cells #[v0, v1, v2, v3, v4, c5, c6, c7] t (0, 0)) := setCell_block (i := 4) (v := v4) s3
  have s5 : ((((((W.setCell ⟨b, 0, none⟩ v0).setCell ⟨b, 1, none⟩ v1).setCell ⟨b, 2, none⟩ v2).setCell ⟨b, 3, none⟩ v3).setCell ⟨b, 4, none⟩ v4).setCell ⟨b, 5, none⟩ v5).heap[b]? = some (.cells #[v0, v1, v2, v3, v4, v5, c6, c7] t (0, 0)) := setCell_block (i := 5) (v := v5) s4
  have s6 : (((((((W.setCell ⟨b, 0, none⟩ v0).setCell ⟨b, 1, none⟩ v1).setCell ⟨b, 2, none⟩ v2).setCell ⟨b, 3, none⟩ v3).setCell ⟨b, 4, none⟩ v4).setCell ⟨b, 5, none⟩ v5).setCell ⟨b, 6, none⟩ v6).heap[b]? = some (.cells #[v0, v1, v2, v3, v4, v5, v6, c7] t (0, 0)) := setCell_block (i := 6) (v := v6) s5
  refine ⟨⟨?_, ?_⟩, ⟨?_, ?_⟩, ⟨?_, ?_⟩, ⟨?_, ?_⟩, ⟨?_, ?_⟩, ⟨?_, ?_⟩, ⟨?_, ?_⟩, ⟨?_, ?_⟩⟩
  · simp [World.cell?, h]
  · simp [World.frozen?, h]
  · generalize (W.setCell ⟨b, 0, none⟩ v0) = Z at s0 ⊢; simp [World.cell?, s0]
  · generalize (W.setCell ⟨b, 0, none⟩ v0) = Z at s0 ⊢; simp [World.frozen?, s0]
  · generalize ((W.setCell ⟨b, 0, none⟩ v0).setCell ⟨b, 1, none⟩ v1) = Z at s1 ⊢; simp [World.cell?, s1]
  · generalize ((W.setCell ⟨b, 0, none⟩ v0).setCell ⟨b, 1, none⟩ v1) = Z at s1 ⊢; simp [World.frozen?, s1]
  · generalize (((W.setCell ⟨b, 0, none⟩ v0).setCell ⟨b, 1, none⟩ v1).setCell ⟨b, 2, none⟩ v2) = Z at s2 ⊢; simp [World.cell?, s2]
  · generalize (((W.setCell ⟨b, 0, none⟩ v0).setCell ⟨b, 1, none⟩ v1).setCell ⟨b, 2, none⟩ v2) = Z at s2 ⊢; simp [World.frozen?, s2]
  · generalize ((((W.setCell ⟨b, 0, none⟩ v0).setCell ⟨b, 1, none⟩ v1).setCell ⟨b, 2, none⟩ v2).setCell ⟨b, 3, none⟩ v3) = Z at s3 ⊢; simp [World.cell?, s3]
  · generalize ((((W.setCell ⟨b, 0, none⟩ v0).setCell ⟨b, 1, none⟩ v1).setCell ⟨b, 2, none⟩ v2).setCell ⟨b, 3, none⟩ v3) = Z at s3 ⊢; simp [World.frozen?, s3]
  · generalize (((((W.setCell ⟨b, 0, none⟩ v0).setCell ⟨b, 1, none⟩ v1).setCell ⟨b, 2, none⟩ v2).setCell ⟨b, 3, none⟩ v3).setCell ⟨b, 4, none⟩ v4) = Z at s4 ⊢; simp [World.cell?, s4]
  · generalize (((((W.setCell ⟨b, 0, none⟩ v0).setCell ⟨b, 1, none⟩ v1).setCell ⟨b, 2, none⟩ v2).setCell ⟨b, 3, none⟩ v3).setCell ⟨b, 4, none⟩ v4) = Z at s4 ⊢; simp [World.frozen?, s4]
  · generalize ((((((W.setCell ⟨b, 0, none⟩ v0).setCell ⟨b, 1, none⟩ v1).setCell ⟨b, 2, none⟩ v2).setCell ⟨b, 3, none⟩ v3).setCell ⟨b, 4, none⟩ v4).setCell ⟨b, 5, none⟩ v5) = Z at s5 ⊢; simp [World.cell?, s5]
  · generalize ((((((W.setCell ⟨b, 0, none⟩ v0).setCell ⟨b, 1, none⟩ v1).setCell ⟨b, 2, none⟩ v2).setCell ⟨b, 3, none⟩ v3).setCell ⟨b, 4, none⟩ v4).setCell ⟨b, 5, none⟩ v5) = Z at s5 ⊢; simp [World.frozen?, s5]
  · generalize (((((((W.setCell ⟨b, 0, none⟩ v0).setCell ⟨b, 1, none⟩ v1).setCell ⟨b, 2, none⟩ v2).setCell ⟨b, 3, none⟩ v3).setCell ⟨b, 4, none⟩ v4).setCell ⟨b, 5, none⟩ v5).setCell ⟨b, 6, none⟩ v6) = Z at s6 ⊢; simp [World.cell?, s6]
  · generalize (((((((W.setCell ⟨b, 0, none⟩ v0).setCell ⟨b, 1, none⟩ v1).setCell ⟨b, 2, none⟩ v2).setCell ⟨b, 3, none⟩ v3).setCell ⟨b, 4, none⟩ v4).setCell ⟨b, 5, none⟩ v5).setCell ⟨b, 6, none⟩ v6) = Z at s6 ⊢; simp [World.frozen?, s6]
theorem box_done {W : World} {b : Nat} {t : TypeId} {c0 c1 c2 c3 c4 c5 c6 c7 : Value} (h : W.heap[b]? = some (.cells #[c0, c1, c2, c3, c4, c5, c6, c7] t (0, 0))) (v0 v1 v2 v3 v4 v5 v6 v7 : Value) :
    ((((((((W.setCell ⟨b, 0, none⟩ v0).setCell ⟨b, 1, none⟩ v1).setCell ⟨b, 2, none⟩ v2).setCell ⟨b, 3, none⟩ v3).setCell ⟨b, 4, none⟩ v4).setCell ⟨b, 5, none⟩ v5).setCell ⟨b, 6, none⟩ v6).setCell ⟨b, 7, none⟩ v7).heap[b]? = some (.cells #[v0, v1, v2, v3, v4, v5, v6, v7] t (0, 0)) ∧ (∀ W0, Ext W0 W → W0.heap.size ≤ b → Ext W0 ((((((((W.setCell ⟨b, 0, none⟩ v0).setCell ⟨b, 1, none⟩ v1).setCell ⟨b, 2, none⟩ v2).setCell ⟨b, 3, none⟩ v3).setCell ⟨b, 4, none⟩ v4).setCell ⟨b, 5, none⟩ v5).setCell ⟨b, 6, none⟩ v6).setCell ⟨b, 7, none⟩ v7)) ∧ Touch (· = b) W ((((((((W.setCell ⟨b, 0, none⟩ v0).setCell ⟨b, 1, none⟩ v1).setCell ⟨b, 2, none⟩ v2).setCell ⟨b, 3, none⟩ v3).setCell ⟨b, 4, none⟩ v4).setCell ⟨b, 5, none⟩ v5).setCell ⟨b, 6, none⟩ v6).setCell ⟨b, 7, none⟩ v7) := by
  have s0 : (W.setCell ⟨b, 0, none⟩ v0).heap[b]? = some (.cells #[v0, c1, c2, c3, c4, c5, c6, c7] t (0, 0)) := setCell_block (i := 0) (v := v0) h
  have s1 : ((W.setCell ⟨b, 0, none⟩ v0).setCell ⟨b, 1, none⟩ v1).heap[b]? = some (.cells #[v0, v1, c2, c3, c4, c5, c6, c7] t (0, 0)) := setCell_block (i := 1) (v := v1) s0
  have s2 : (((W.setCell ⟨b, 0, none⟩ v0).setCell ⟨b, 1, none⟩ v1).setCell ⟨b, 2, none⟩ v2).heap[b]? = some (.cells #[v0, v1, v2, c3, c4, c5, c6, c7] t (0, 0)) := setCell_block (i := 2) (v := v2) s1
  have s3 : ((((W.setCell ⟨b, 0, none⟩ v0).setCell ⟨b, 1, none⟩ v1).setCell ⟨b, 2, none⟩ v2).setCell ⟨b, 3, none⟩ v3).heap[b]? = some (.cells #[v0, v1, v2, v3, c4, c5, c6, c7] t (0, 0)) := setCell_block (i := 3) (v := v3) s2
  have s4 : (((((W.setCell ⟨b, 0, none⟩ v0).setCell ⟨b, 1, none⟩ v1).setCell ⟨b, 2, none⟩ v2).setCell ⟨b, 3, none⟩ v3).setCell ⟨b, 4, none⟩ v4).heap[b]? = some (.cells #[v0, v1, v2, v3, v4, c5, c6, c7] t (0, 0)) := setCell_block (i := 4) (v := v4) s3
  have s5 : ((((((W.setCell ⟨b, 0, none⟩ v0).setCell ⟨b, 1, none⟩ v1).setCell ⟨b, 2, none⟩ v2).setCell ⟨b, 3, none⟩ v3).setCell ⟨b, 4, none⟩ v4).setCell ⟨b, 5, none⟩ v5).heap[b]? = some (.cells #[v0, v1, v2, v3, v4, v5, c6, c7] t (0, 0)) := setCell_block (i := 5) (v := v5) s4
  have s6 : (((((((W.setCell ⟨b, 0, none⟩ v0).setCell ⟨b, 1, none⟩ v1).setCell ⟨b, 2, none⟩ v2).setCell ⟨b, 3, none⟩ v3).setCell ⟨b, 4, none⟩ v4).setCell ⟨b, 5, none⟩ v5).setCell ⟨b, 6, none⟩ v6).heap[b]? = some (.cells #[v0, v1, v2, v3, v4, v5, v6, c7] t (0, 0)) := setCell_block (i := 6) (v := v6) s5
  have s7 : ((((((((W.setCell ⟨b, 0, none⟩ v0).setCell ⟨b, 1, none⟩ v1).setCell ⟨b, 2, none⟩ v2).setCell ⟨b, 3, none⟩ v3).setCell ⟨b, 4, none⟩ v4).setCell ⟨b, 5, none⟩ v5).setCell ⟨b, 6, none⟩ v6).setCell ⟨b, 7, none⟩ v7).heap[b]? = some (.cells #[v0, v1, v2, v3, v4, v5, v6, v7] t (0, 0)) := setCell_block (i := 7) (v := v7) s6
  refine ⟨s7, fun W0 hx hb => ?_, ?_⟩
  · exact ((((((((hx.setCell (p := ⟨b, 0, none⟩) hb _).setCell (p := ⟨b, 1, none⟩) hb _).setCell (p := ⟨b, 2, none⟩) hb _).setCell (p := ⟨b, 3, none⟩) hb _).setCell (p := ⟨b, 4, none⟩) hb _).setCell (p := ⟨b, 5, none⟩) hb _).setCell (p := ⟨b, 6, none⟩) hb _).setCell (p := ⟨b, 7, none⟩) hb _)
  · exact ((((((((Touch.setCell (M := (· = b)) (a := ⟨b, 0, none⟩) _ rfl).trans (Touch.setCell (M := (· = b)) (a := ⟨b, 1, none⟩) _ rfl)).trans (Touch.setCell (M := (· = b)) (a := ⟨b, 2, none⟩) _ rfl)).trans (Touch.setCell (M := (· = b)) (a := ⟨b, 3, none⟩) _ rfl)).trans (Touch.setCell (M := (· = b)) (a := ⟨b, 4, none⟩) _ rfl)).trans (Touch.setCell (M := (· = b)) (a := ⟨b, 5, none⟩) _ rfl)).trans (Touch.setCell (M := (· = b)) (a := ⟨b, 6, none⟩) _ rfl)).trans (Touch.setCell (M := (· = b)) (a := ⟨b, 7, none⟩) _ rfl))
theorem box_there8 {W : World} {b : Nat} {t : TypeId} {c0 c1 c2 c3 c4 c5 c6 c7 : Value} (h : W.heap[b]? = some (.cells #[c0, c1, c2, c3, c4, c5, c6, c7] t (0, 0))) : W.there b 0 8 := by
  intro j hj
  rcases (show j = 0 ∨ j = 1 ∨ j = 2 ∨ j = 3 ∨ j = 4 ∨ j = 5 ∨ j = 6 ∨ j = 7 by omega) with rfl | rfl | rfl | rfl | rfl | rfl | rfl | rfl <;> simp [World.cell?, World.frozen?, h]
theorem box_range8 {W : World} {b : Nat} {t : TypeId} {c0 c1 c2 c3 c4 c5 c6 c7 : Value} (h : W.heap[b]? = some (.cells #[c0, c1, c2, c3, c4, c5, c6, c7] t (0, 0))) : W.rangeAt b 0 [c0, c1, c2, c3, c4, c5, c6, c7] := by
  intro j v hv
  have hj := (List.getElem?_eq_some_iff.1 hv).1
  simp only [List.length_cons, List.length_nil] at hj
  rcases (show j = 0 ∨ j = 1 ∨ j = 2 ∨ j = 3 ∨ j = 4 ∨ j = 5 ∨ j = 6 ∨ j = 7 by omega) with rfl | rfl | rfl | rfl | rfl | rfl | rfl | rfl <;> (simp at hv; subst hv; simp [World.cell?, h])
theorem box_set8 {W : World} {b : Nat} {t : TypeId} {c0 c1 c2 c3 c4 c5 c6 c7 : Value} (h : W.heap[b]? = some (.cells #[c0, c1, c2, c3, c4, c5, c6, c7] t (0, 0))) (v0 v1 v2 v3 v4 v5 v6 v7 : Value) :
    (W.setCells b 0 [v0, v1, v2, v3, v4, v5, v6, v7]).heap[b]? = some (.cells #[v0, v1, v2, v3, v4, v5, v6, v7] t (0, 0)) ∧ (∀ W0, Ext W0 W → W0.heap.size ≤ b → Ext W0 (W.setCells b 0 [v0, v1, v2, v3, v4, v5, v6, v7])) ∧ Touch (· = b) W (W.setCells b 0 [v0, v1, v2, v3, v4, v5, v6, v7]) := by
  simp only [World.setCells, Nat.zero_add, Nat.reduceAdd]
  exact box_done h v0 v1 v2 v3 v4 v5 v6 v7
set_option maxHeartbeats 2000000 in
theorem readD_idle (p q : Value) (w : World) :
    CallsD Tryz.prog 51 #[p, q] .returning w fun e u' w' => e = .returned (.tuple #[]) ∧ u' = .returning ∧ w' = w := by
  refine callsD_of_wpS Tryz.func51 rfl fun c₀ cs hu => ?_
  apply wpS_seq
  apply wpS_region
  simp [wpOpsS, go_sem, recoverD, hu, Tryz.ntmps51, Exit.thenS]
  refine wpS_of_wp ?_
  go_wp2
  cases c₀
  simp_all [bodyPostS, results, Tryz.results51]
/-- The world behind the closure that has recovered. -/
abbrev doneW (w : World) (b eb : Nat) (why : ByteArray) : World := ((w.alloc (.cells #[.string why] 95)).setCells b 0 [.int .i64 0, .int .i64 0, .int .i64 0, .int .i64 0, .int .i64 0, .slice none 0 0, .int .i64 0, .int .i64 0]).setCell ⟨eb, 0, none⟩ (.int .i64 4)
set_option maxRecDepth 100000 in
set_option maxHeartbeats 8000000 in
theorem readD_strange (b eb : Nat) (why : ByteArray) (x : Value) (w : World) {c0 c1 c2 c3 c4 c5 c6 c7 : Value} (hb : w.heap[b]? = some (.cells #[c0, c1, c2, c3, c4, c5, c6, c7] 26 (0, 0))) (hc : w.cell? ⟨eb, 0, none⟩ = some x) (hz : w.frozen? ⟨eb, 0, none⟩ = false) (hne : eb ≠ b) :
    CallsD Tryz.prog 51 #[.pointer (some ⟨b, 0, none⟩), .pointer (some ⟨eb, 0, none⟩)] (.panicking [{ v := strangeV why, recovered := false }]) w fun e u' w' =>
      e = .returned (.tuple #[]) ∧ u' = .panicking [{ v := strangeV why, recovered := true }] ∧ w' = doneW w b eb why := by
  have hta : ∀ wq, (Instr.typeAssert (.iface 95 (.agg #[.string why])) 20 95 true).run Tryz.prog wq = .ok (.tuple #[.agg #[.string why], .bool true]) wq := fun wq => by kernel_rfl
  have hxa : Ext w (w.alloc (.cells #[.string why] 95)) := (Ext.refl w).alloc _
  have hlt := (Array.getElem?_eq_some_iff.1 hb).1
  have HBA := Lib.hid ((hxa.block hlt).trans hb)
  have hst := box_set8 HBA.out (.int .i64 0) (.int .i64 0) (.int .i64 0) (.int .i64 0) (.int .i64 0) (.slice none 0 0) (.int .i64 0) (.int .i64 0)
  have HE : Hid (((w.alloc (.cells #[.string why] 95)).setCells b 0 [.int .i64 0, .int .i64 0, .int .i64 0, .int .i64 0, .int .i64 0, .slice none 0 0, .int .i64 0, .int .i64 0]).cell? ⟨eb, 0, none⟩ = some x ∧ ((w.alloc (.cells #[.string why] 95)).setCells b 0 [.int .i64 0, .int .i64 0, .int .i64 0, .int .i64 0, .int .i64 0, .slice none 0 0, .int .i64 0, .int .i64 0]).frozen? ⟨eb, 0, none⟩ = false) := by
    refine ⟨hst.2.2.cell (hxa.cell hc) (by simpa using hne), ?_⟩
    rw [World.frozen?_setCells]
    exact (hxa.frozen (lt_of_cell hc)).trans hz
  unfold strangeV doneW
  clear hb hc hz hxa hst
  refine callsD_of_wpS Tryz.func51 rfl fun c₀ cs hu => ?_
  apply wpS_seq
  apply wpS_region
  simp [wpOpsS, go_sem, recoverD, hu, Tryz.ntmps51, Exit.thenS]
  refine wpS_of_wp ?_
  simp only [Array.replicate_succ, Array.replicate_zero, List.push_toArray, List.append_toArray, List.nil_append, List.cons_append]
  go_upto_region 7 with fail
  refine wp_region_list ?_
  refine wpList_plain rfl (fun K hK => ?_)
  go_simp
  refine hK _ _ ?_
  clear hK K
  refine wpList_store_mid rfl _ _ _ rfl b 0 #[.int .i64 0, .int .i64 0, .int .i64 0, .int .i64 0, .int .i64 0, .slice none 0 0, .int .i64 0, .int .i64 0] rfl rfl (box_there8 HBA.out) (by kernel_rfl) (by simp [Value.oneCell']) ?_
  change wpList _ _ _ _ _ ((w.alloc (.cells #[.string why] 95)).setCells b 0 [.int .i64 0, .int .i64 0, .int .i64 0, .int .i64 0, .int .i64 0, .slice none 0 0, .int .i64 0, .int .i64 0])
  obtain ⟨he, hf⟩ := HE.out
  generalize hW2 : (w.alloc (.cells #[.string why] 95)).setCells b 0 [.int .i64 0, .int .i64 0, .int .i64 0, .int .i64 0, .int .i64 0, .slice none 0 0, .int .i64 0, .int .i64 0] = W2 at *
  have HW2 := Lib.hid hW2
  clear hW2 HE
  go_wp2
  cases c₀
  simp_all [bodyPostS, results, Tryz.results51]
  rw [HW2.out]
end Go.Proofs.YtbeophjdiddomaaGreatDoor
