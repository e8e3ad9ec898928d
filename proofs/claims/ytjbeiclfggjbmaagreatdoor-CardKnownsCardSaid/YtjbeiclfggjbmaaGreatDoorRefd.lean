/- The reference's own: the numbers of buttons of a house in all truths. -/
import Derived.Test.YtjbeiclfggjbmaaGreatDoorRefc
import Derived.Test.YtjbeiclfggjbmaaGreatDoorChoice
namespace Go.Proofs.YtjbeiclfggjbmaaGreatDoor
open Go.RowKit

/-! ### In plain Lean -/
theorem sumF_shift (f : Nat → Int) (a k : Nat) : sumF f (a + 1) k = sumF (fun i => f (i + 1)) a k := by
  induction k with
  | zero => rfl
  | succ k ih => rw [sumF, sumF, ih, show a + 1 + k = a + k + 1 by omega]
theorem sumsP_iff {xss : List (List Int)} : ∀ (k : Nat) (n : Int), sumsP xss k n ↔ ∃ f : Nat → Int, (∀ i, i < k → f i ∈ rowN xss i) ∧ n = sumF f 0 k
  | 0, n => ⟨fun h => ⟨fun _ => 0, fun i hi => by omega, h⟩, fun ⟨_, _, h⟩ => h⟩
  | k + 1, n => by
    constructor
    · rintro ⟨x, y, hx, hy, rfl⟩
      obtain ⟨f, h1, h2⟩ := (sumsP_iff k x).1 hx
      refine ⟨fun i => if i = k then y else f i, fun i hi => ?_, ?_⟩
      · by_cases e : i = k
        · subst e; simpa using hy
        · simp only [e, if_false]; exact h1 i (by omega)
      · rw [sumF, h2, sumF_congr (f := f) (g := fun i => if i = k then y else f i) (fun i _ hi => by rw [if_neg (by omega)])]; simp
    · rintro ⟨f, h1, h2⟩
      rw [sumF, Nat.zero_add] at h2
      exact ⟨sumF f 0 k, f k, (sumsP_iff k _).2 ⟨f, fun i hi => h1 i (by omega), rfl⟩, h1 k (by omega), h2⟩
/-- The lists of the first k houses but one. -/
def othersUp (r : Round) (free b : Int) (house k : Nat) : List (List Int) := ((List.range k).filter fun i => decide (i ≠ house)).map (couldL r free b)
section
variable {r : Round} {free b : Int} {house : Nat}
theorem othersUp_zero : othersUp r free b house 0 = [] := rfl
theorem othersUp_yes {k : Nat} (h : k ≠ house) : othersUp r free b house (k + 1) = othersUp r free b house k ++ [couldL r free b k] := by
  unfold othersUp; rw [List.range_succ, List.filter_append]; simp [List.filter_cons, h]
theorem othersUp_no {k : Nat} (h : k = house) : othersUp r free b house (k + 1) = othersUp r free b house k := by
  unfold othersUp; rw [List.range_succ, List.filter_append]; simp [List.filter_cons, h]
theorem othersUp_low : ∀ {k : Nat}, k ≤ house → othersUp r free b house k = (List.range k).map (couldL r free b)
  | 0, _ => rfl
  | k + 1, h => by rw [othersUp_yes (by omega), othersUp_low (by omega), List.range_succ]; simp
theorem othersUp_len : ∀ (k : Nat), (othersUp r free b house k).length = if house < k then k - 1 else k
  | 0 => rfl
  | k + 1 => by
    have ih := othersUp_len k
    by_cases h : k = house
    · rw [othersUp_no h, ih, if_neg (by omega), if_pos (by omega)]; omega
    · rw [othersUp_yes h, List.length_append, ih, List.length_singleton]
      by_cases h2 : house < k
      · rw [if_pos h2, if_pos (by omega)]; omega
      · rw [if_neg h2, if_neg (by omega)]
theorem othersUp_at : ∀ (k i : Nat), i < (if house < k then k - 1 else k) → rowN (othersUp r free b house k) i = couldL r free b (if i < house then i else i + 1)
  | 0, i, h => by simp at h
  | k + 1, i, h => by
    have hl := @othersUp_len r free b house k
    by_cases hk : k = house
    · rw [othersUp_no hk]
      refine othersUp_at k i ?_
      rw [if_pos (by omega)] at h
      rw [if_neg (by omega)]; omega
    · rw [othersUp_yes hk]
      by_cases hi : i < (othersUp r free b house k).length
      · have := othersUp_at k i (by rw [← hl]; exact hi)
        rw [← this]; unfold rowN
        rw [List.getD_eq_getElem?_getD, List.getD_eq_getElem?_getD, List.getElem?_append_left hi]
      · have hie : i = (othersUp r free b house k).length := by
          rw [hl]; rw [hl] at hi
          by_cases h2 : house < k
          · rw [if_pos h2] at hi ⊢; rw [if_pos (by omega)] at h; omega
          · rw [if_neg h2] at hi ⊢; rw [if_neg (by omega)] at h; omega
        have hki : (if i < house then i else i + 1) = k := by
          rw [hie, hl]
          by_cases h2 : house < k
          · rw [if_pos h2, if_neg (by omega)]; omega
          · rw [if_neg h2, if_pos (by omega)]
        rw [hki]; unfold rowN
        rw [List.getD_eq_getElem?_getD, List.getElem?_append_right (by omega), hie]; simp
end
/-- A number of the house goes with the others' sums just if a choice has it. -/
theorem own_hit {r : Round} (hB : RoundB r) {free b : Int} {house : Nat} (hh : house < r.houses.length) {x : Int} (hx : x ∈ couldL r free b house) :
    (∃ n, r.all - r.off - x ≤ n ∧ n ≤ r.all + r.off - x ∧ sumsP (othersUp r free b house r.houses.length) (othersUp r free b house r.houses.length).length n) ↔ ∃ f a, PickR r free b f a ∧ f house = x := by
  have hl : (othersUp r free b house r.houses.length).length = r.houses.length - 1 := by rw [othersUp_len, if_pos hh]
  rw [hl]
  have hrow : ∀ i, i < r.houses.length - 1 → rowN (othersUp r free b house r.houses.length) i = couldL r free b (if i < house then i else i + 1) := fun i hi => othersUp_at _ i (by rw [if_pos hh]; exact hi)
  constructor
  · rintro ⟨n, h1, h2, h3⟩
    obtain ⟨f, h4, h5⟩ := (sumsP_iff _ n).1 h3
    let g : Nat → Int := fun j => if j < house then f j else if j = house then x else f (j - 1)
    refine ⟨g, n + x, ⟨fun j hj => ?_, ?_, by omega, by omega⟩, ?_⟩
    · by_cases e1 : j < house
      · have := h4 j (by omega)
        rw [hrow j (by omega), if_pos e1] at this
        show ownS r free b j (g j)
        simp only [g, e1, if_true]
        exact (mem_couldL hj).1 this
      · by_cases e2 : j = house
        · subst e2
          show ownS r free b j (g j)
          simp only [g, Nat.lt_irrefl, if_false, if_true]
          exact (mem_couldL hj).1 hx
        · have := h4 (j - 1) (by omega)
          rw [hrow (j - 1) (by omega), if_neg (by omega), show j - 1 + 1 = j by omega] at this
          show ownS r free b j (g j)
          simp only [g, e1, e2, if_false]
          exact (mem_couldL hj).1 this
    · have hsp := sumF_add f 0 house (r.houses.length - 1 - house)
      rw [show house + (r.houses.length - 1 - house) = r.houses.length - 1 by omega] at hsp
      rw [sumF_at g hh, h5, hsp, Nat.zero_add]
      have e1 : sumF g 0 house = sumF f 0 house := sumF_congr (fun i _ hi => by simp only [g]; rw [if_pos (by omega)])
      have e2 : sumF g (house + 1) (r.houses.length - 1 - house) = sumF f house (r.houses.length - 1 - house) := by
        rw [sumF_shift]
        exact sumF_congr (fun i hi _ => by simp only [g]; rw [if_neg (by omega), if_neg (by omega)]; rfl)
      have e3 : g house = x := by simp [g]
      rw [e1, e2, e3]; omega
    · simp [g]
  · rintro ⟨f, a, ⟨h1, h2, h3, h4⟩, rfl⟩
    refine ⟨a - f house, by omega, by omega, (sumsP_iff _ _).2 ⟨fun j => if j < house then f j else f (j + 1), fun i hi => ?_, ?_⟩⟩
    · rw [hrow i hi]
      by_cases e : i < house
      · simp only [e, if_true]; exact (mem_couldL (by omega)).2 (h1 i (by omega))
      · simp only [e, if_false]; exact (mem_couldL (by omega)).2 (h1 (i + 1) (by omega))
    · have hsp := sumF_add (fun j => if j < house then f j else f (j + 1)) 0 house (r.houses.length - 1 - house)
      rw [show house + (r.houses.length - 1 - house) = r.houses.length - 1 by omega, Nat.zero_add] at hsp
      rw [hsp, h2, sumF_at f hh]
      have e1 : sumF (fun j => if j < house then f j else f (j + 1)) 0 house = sumF f 0 house := sumF_congr (fun i _ hi => by rw [if_pos (by omega)])
      have e2 : sumF (fun j => if j < house then f j else f (j + 1)) house (r.houses.length - 1 - house) = sumF f (house + 1) (r.houses.length - 1 - house) := by
        rw [sumF_shift]
        exact sumF_congr (fun i hi _ => by rw [if_neg (by omega)])
      rw [e1, e2]; omega
theorem couldL_bd {r : Round} (hB : RoundB r) {free b : Int} {i : Nat} (hi : i < r.houses.length) {n : Int} (h : n ∈ couldL r free b i) : 0 ≤ n ∧ n ≤ 3000 := by
  have h0 := (mem_couldL hi).1 h
  obtain ⟨hs, h1, x, hx, rfl⟩ := h0
  obtain ⟨h2, h3, _, h4, _⟩ := mem_ways hx
  have hbad := badHouse_iff.1 (hB.hs hs (List.mem_of_getElem? h1))
  have hp := hB.p1
  have := Int.mul_nonneg (a := r.per) (b := x.1) (by omega) h3
  unfold okB canB at h2
  simp only [Bool.and_eq_true, decide_eq_true_eq] at h2
  have h5 := h2.1.1.2
  exact ⟨by unfold nOf; omega, by omega⟩
theorem couldL_len {r : Round} (hB : RoundB r) {free b : Int} {i : Nat} (hi : i < r.houses.length) : (couldL r free b i).length ≤ 2200 := by
  unfold couldL
  have e : r.houses[i]? = some (r.houses[i]) := List.getElem?_eq_getElem hi
  rw [List.getD_eq_getElem?_getD, e]
  simp only [Option.getD_some]
  have hbad := badHouse_iff.1 (hB.hs _ (List.getElem_mem hi))
  have hp := hB.p1
  have hp2 := hB.p2
  rw [← numsAt_end _ rfl]
  have h1 := @numsAt_len r b (r.houses[i]) (decide ((i : Int) = free)) ((r.houses[i]).cards + 1).toNat 0
  have h2 : ((r.houses[i]).cards + 1).toNat ≤ 61 := by omega
  have h3 : r.per.toNat ≤ 36 := by omega
  have := Nat.mul_le_mul h2 h3
  omega
theorem othersUp_mem {r : Round} (hB : RoundB r) {free b : Int} {house k : Nat} (hk : k ≤ r.houses.length) : ∀ l, l ∈ othersUp r free b house k → ∀ y, y ∈ l → 0 ≤ y ∧ y ≤ 3000 := by
  intro l hl y hy
  unfold othersUp at hl
  obtain ⟨i, hi, rfl⟩ := List.mem_map.1 hl
  have := List.mem_range.1 (List.mem_filter.1 hi).1
  exact couldL_bd hB (by omega) hy

/-! ### In memory -/
theorem owns_ne {W : World} {base base' : Nat} {e e' : TypeId} {size size' : Nat} {v v' : Value} {n n' : Nat} {xs xs' : List Value} (h : W.ownsRow base e size v n xs) (h' : W.ownsRow base' e' size' v' n' xs') (he : e ≠ e') : v.ownBlock = none ∨ v.ownBlock ≠ v'.ownBlock := by
  rcases h.2 with ⟨rfl, _⟩ | ⟨g, cap, cur, rfl, _, hg, _⟩
  · exact .inl rfl
  · right; intro e2
    rcases h'.2 with ⟨rfl, _⟩ | ⟨g', cap', cur', rfl, _, hg', _⟩
    · simp [Value.ownBlock] at e2
    · have : g = g' := by simpa [Value.ownBlock] using e2
      subst this
      rw [hg] at hg'; cases hg'; exact he rfl
/-- A slice of lists, each in a block of its own. -/
def ListsOwn (W : World) (base : Nat) (v : Value) (xss : List (List Int)) : Prop := ∃ vals : List Value, vals.length = xss.length ∧ W.ownsRow base 36 1 v xss.length vals ∧ ∀ (i : Nat) (u : Value) (xs : List Int), vals[i]? = some u → xss[i]? = some xs → W.ownsRow base 3 1 u xs.length (xs.map (.int .i64))
theorem ListsOwn.nil (W : World) (base : Nat) : ListsOwn W base (.slice none 0 0) [] := ⟨[], rfl, World.ownsRow_nil _ _ _ _, fun i u xs h => by simp at h⟩
theorem ListsOwn.ext {W W' : World} {base : Nat} {v : Value} {xss : List (List Int)} (h : ListsOwn W base v xss) (k : Ext W W') : ListsOwn W' base v xss := by
  obtain ⟨vals, h1, h2, h3⟩ := h; exact ⟨vals, h1, owns_ext h2 k, fun i u xs hu hx => owns_ext (h3 i u xs hu hx) k⟩
theorem ListsOwn.rows {W : World} {base : Nat} {v : Value} {xss : List (List Int)} (h : ListsOwn W base v xss) : RowsAt W v xss := by
  obtain ⟨vals, h1, h2, h3⟩ := h; exact ⟨vals, h1, RowAt.of_owns h2, fun i u xs hu hx => IntsAt.of_owns (h3 i u xs hu hx)⟩
theorem lists_push {W W' : World} {base g cap : Nat} {v u : Value} {xss : List (List Int)} {xs : List Int} {t : TypeId} {vals : List Value} (h1 : vals.length = xss.length) (h2 : W.ownsRow base 36 1 v xss.length vals) (h3 : ∀ (i : Nat) (u : Value) (xs : List Int), vals[i]? = some u → xss[i]? = some xs → W.ownsRow base 3 1 u xs.length (xs.map (.int .i64)))
    (hu : W.ownsRow base 3 1 u xs.length (xs.map (.int .i64))) (own : W'.ownsRow base 36 1 (.slice (some ⟨g, 0, none⟩) (xss.length + 1) cap) (xss.length + 1) (vals ++ [u])) (hg : (W.alloc (.cells #[u] t)).grownBy W' v.ownBlock) : ListsOwn W' base (.slice (some ⟨g, 0, none⟩) (xss.length + 1) cap) (xss ++ [xs]) := by
  have key : ∀ (z : Value) (zs : List Int), W.ownsRow base 3 1 z zs.length (zs.map (.int .i64)) → W'.ownsRow base 3 1 z zs.length (zs.map (.int .i64)) := fun z zs hz =>
    (hz.alloc _).kept hg (owns_ne hz h2 (by decide))
  refine ⟨vals ++ [u], by simp [h1], by rw [List.length_append]; exact own, fun i z zs hz hzs => ?_⟩
  rcases Nat.lt_or_ge i vals.length with hi | hi
  · rw [List.getElem?_append_left hi] at hz
    rw [List.getElem?_append_left (by omega)] at hzs
    exact key z zs (h3 i z zs hz hzs)
  · have hie : i = vals.length := by
      have := (List.getElem?_eq_some_iff.1 hz).1
      rw [List.length_append, List.length_singleton] at this; omega
    subst hie
    rw [List.getElem?_append_right (Nat.le_refl _)] at hz
    rw [List.getElem?_append_right (by omega), h1] at hzs
    simp at hz hzs
    subst hz hzs
    exact key _ _ hu
end Go.Proofs.YtjbeiclfggjbmaaGreatDoor
