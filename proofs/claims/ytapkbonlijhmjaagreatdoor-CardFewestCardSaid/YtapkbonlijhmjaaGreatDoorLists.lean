/- A list of lists, all rows own. -/
import Derived.Test.YtapkbonlijhmjaaGreatDoorKnown
import Derived.Test.YtapkbonlijhmjaaGreatDoorRoadsb
namespace Go.Proofs.YtapkbonlijhmjaaGreatDoor
open Go.RowKit

/-! ### In memory -/
theorem owns_ne {W : World} {base base' : Nat} {e e' : TypeId} {size size' : Nat} {v v' : Value} {n n' : Nat} {xs xs' : List Value} (h : W.ownsRow base e size v n xs) (h' : W.ownsRow base' e' size' v' n' xs') (he : e ≠ e') : v.ownBlock = none ∨ v.ownBlock ≠ v'.ownBlock := by
  rcases h.2 with ⟨rfl, _⟩ | ⟨g, cap, cur, rfl, _, hg, _⟩
  · exact .inl rfl
  · right; intro e2
    rcases h'.2 with ⟨rfl, _⟩ | ⟨g', cap', cur', rfl, _, hg', _⟩
    · simp [Value.ownBlock] at e2
    · have : g = g' := by simpa [Value.ownBlock] using e2
      subst this
      rw [hg] at hg'; cases hg'; exact he rfl
/-- A slice of lists, each in a block of its own. -/
def ListsOwn (W : World) (base : Nat) (v : Value) (xss : List (List Int)) : Prop := ∃ vals : List Value, vals.length = xss.length ∧ W.ownsRow base 22 1 v xss.length vals ∧ ∀ (i : Nat) (u : Value) (xs : List Int), vals[i]? = some u → xss[i]? = some xs → W.ownsRow base 3 1 u xs.length (xs.map (.int .i64))
theorem ListsOwn.nil (W : World) (base : Nat) : ListsOwn W base (.slice none 0 0) [] := ⟨[], rfl, World.ownsRow_nil _ _ _ _, fun i u xs h => by simp at h⟩
theorem ListsOwn.ext {W W' : World} {base : Nat} {v : Value} {xss : List (List Int)} (h : ListsOwn W base v xss) (k : Ext W W') : ListsOwn W' base v xss := by
  obtain ⟨vals, h1, h2, h3⟩ := h; exact ⟨vals, h1, owns_ext h2 k, fun i u xs hu hx => owns_ext (h3 i u xs hu hx) k⟩
theorem ListsOwn.rows {W : World} {base : Nat} {v : Value} {xss : List (List Int)} (h : ListsOwn W base v xss) : RowsAt W v xss := by
  obtain ⟨vals, h1, h2, h3⟩ := h; exact ⟨vals, h1, RowAt.of_owns h2, fun i u xs hu hx => IntsAt.of_owns (h3 i u xs hu hx)⟩
theorem lists_push {W W' : World} {base g cap : Nat} {v u : Value} {xss : List (List Int)} {xs : List Int} {t : TypeId} {vals : List Value} (h1 : vals.length = xss.length) (h2 : W.ownsRow base 22 1 v xss.length vals) (h3 : ∀ (i : Nat) (u : Value) (xs : List Int), vals[i]? = some u → xss[i]? = some xs → W.ownsRow base 3 1 u xs.length (xs.map (.int .i64)))
    (hu : W.ownsRow base 3 1 u xs.length (xs.map (.int .i64))) (own : W'.ownsRow base 22 1 (.slice (some ⟨g, 0, none⟩) (xss.length + 1) cap) (xss.length + 1) (vals ++ [u])) (hg : (W.alloc (.cells #[u] t)).grownBy W' v.ownBlock) : ListsOwn W' base (.slice (some ⟨g, 0, none⟩) (xss.length + 1) cap) (xss ++ [xs]) := by
  have key : ∀ (z : Value) (zs : List Int), W.ownsRow base 3 1 z zs.length (zs.map (.int .i64)) → W'.ownsRow base 3 1 z zs.length (zs.map (.int .i64)) := fun z zs hz =>
    (hz.alloc _).kept hg (owns_ne hz h2 (by decide))
  refine ⟨vals ++ [u], by simp [h1], by rw [List.length_append]; exact own, fun i z zs hz hzs => ?_⟩
  rcases Nat.lt_or_ge i vals.length with hi | hi
  · rw [List.getElem?_append_left hi] at hz
    rw [List.getElem?_append_left (by omega)] at hzs
    exact key z zs (h3 i z zs hz hzs)
  · have hie : i = vals.length := by
      have := (List.getElem?_eq_some_iff.1 hz).1
      rw [List.length_append, List.length_singleton] at this; omega
    subst hie
    rw [List.getElem?_append_right (Nat.le_refl _)] at hz
    rw [List.getElem?_append_right (by omega), h1] at hzs
    simp at hz hzs
    subst hz hzs
    exact key _ _ hu
theorem owns_lower {w : World} {base base' : Nat} {e : TypeId} {size : Nat} {v : Value} {n : Nat} {xs : List Value} (h : w.ownsRow base e size v n xs) (hb : base' ≤ base) : w.ownsRow base' e size v n xs := by
  refine ⟨h.1, ?_⟩
  rcases h.2 with h1 | ⟨g, cap, cur, h1, h2, h3⟩
  · exact .inl h1
  · exact .inr ⟨g, cap, cur, h1, by omega, h3⟩

end Go.Proofs.YtapkbonlijhmjaaGreatDoor
