/- CardEnds: small laws for the walk. -/
import Derived.Test.YtbeophjdiddomaaGreatDoorEndsb
namespace Go.Proofs.YtbeophjdiddomaaGreatDoor
open Go.RowKit

theorem made_spans {n : Nat} (h : n ≤ 4) : (madeCells (Value.agg #[.int .i64 0, .int .i64 0]).cells (n * 2)).toList = (List.replicate n ((0 : Int), (0 : Int))).flatMap spanCells := by
  rcases (show n = 0 ∨ n = 1 ∨ n = 2 ∨ n = 3 ∨ n = 4 by omega) with rfl | rfl | rfl | rfl | rfl <;> kernel_rfl
theorem house_cells {W : World} {b : Nat} {x : House} {t : TypeId} (h : W.heap[b]? = some (.cells #[.int .i64 x.out, .int .i64 x.cards, .int .i64 x.full, .int .i64 x.loose, .int .i64 x.miss, .int .i64 x.weighed] t (0, 0))) :
    W.cell? ⟨b, 0, none⟩ = some (.int .i64 x.out) ∧ W.cell? ⟨b, 1, none⟩ = some (.int .i64 x.cards) ∧ W.cell? ⟨b, 2, none⟩ = some (.int .i64 x.full) ∧ W.cell? ⟨b, 3, none⟩ = some (.int .i64 x.loose) ∧ W.cell? ⟨b, 4, none⟩ = some (.int .i64 x.miss) ∧ W.cell? ⟨b, 5, none⟩ = some (.int .i64 x.weighed) := by simp [World.cell?, h]
theorem lt_of_heap {W : World} {b : Nat} {o : Obj} (h : W.heap[b]? = some o) : b < W.heap.size := (Array.getElem?_eq_some_iff.1 h).1
theorem spans_up {r : Round} {k : Nat} {x : House} (hx : r.houses[k]? = some x) {W : World} {base g cap : Nat} (h : W.ownsRow base 23 2 (.slice (some ⟨g, 0, none⟩) (2 * k + 1 + 1) cap) (2 * k + 1 + 1) (((spansE r).take (2 * k)).flatMap spanCells ++ [.int .i64 (cntS x.full x.miss x.cards).1, .int .i64 (cntS x.full x.miss x.cards).2, .int .i64 (cntS x.loose x.miss (r.per - 1)).1, .int .i64 (cntS x.loose x.miss (r.per - 1)).2])) :
    W.ownsRow base 23 2 (.slice (some ⟨g, 0, none⟩) (2 * k + 1 + 1) cap) (2 * (k + 1)) (((spansE r).take (2 * (k + 1))).flatMap spanCells) := by
  rw [← spansE_take] at h ⊢
  rw [List.take_add_one, hx, Option.toList_some, List.flatMap_append, List.flatMap_append]
  exact h
end Go.Proofs.YtbeophjdiddomaaGreatDoor
