/- The reference's own: the numbers of buttons of a house in all truths. -/
import Derived.Test.YtpheidlocijdkaaGreatDoorRefc
import Derived.Test.YtpheidlocijdkaaGreatDoorChoice
import Derived.Test.YtpheidlocijdkaaGreatDoorKnown
import Derived.IntWalk
namespace Go.Proofs.YtpheidlocijdkaaGreatDoor
open Go.RowKit

/-! ### In plain Lean -/
theorem sumF_shift (f : Nat → Int) (a k : Nat) : sumF f (a + 1) k = sumF (fun i => f (i + 1)) a k := by
  induction k with
  | zero => rfl
  | succ k ih => rw [sumF, sumF, ih, show a + 1 + k = a + k + 1 by omega]
theorem sumsP_iff {xss : List (List Int)} : ∀ (k : Nat) (n : Int), sumsP xss k n ↔ ∃ f : Nat → Int, (∀ i, i < k → f i ∈ rowN xss i) ∧ n = sumF f 0 k
  | 0, n => ⟨fun h => ⟨fun _ => 0, fun i hi => by omega, h⟩, fun ⟨_, _, h⟩ => h⟩
  | k + 1, n => by
    constructor
    · rintro ⟨x, y, hx, hy, rfl⟩
      obtain ⟨f, h1, h2⟩ := (sumsP_iff k x).1 hx
      refine ⟨fun i => if i = k then y else f i, fun i hi => ?_, ?_⟩
      · by_cases e : i = k
        · subst e; simpa using hy
        · simp only [e, if_false]; exact h1 i (by omega)
      · rw [sumF, h2, sumF_congr (f := f) (g := fun i => if i = k then y else f i) (fun i _ hi => by rw [if_neg (by omega)])]; simp
    · rintro ⟨f, h1, h2⟩
      rw [sumF, Nat.zero_add] at h2
      exact ⟨sumF f 0 k, f k, (sumsP_iff k _).2 ⟨f, fun i hi => h1 i (by omega), rfl⟩, h1 k (by omega), h2⟩
/-- The lists of the first k houses but one. -/
def othersUp (r : Round) (free b : Int) (house k : Nat) : List (List Int) := ((List.range k).filter fun i => decide (i ≠ house)).map (couldL r free b)
section
variable {r : Round} {free b : Int} {house : Nat}
theorem othersUp_zero : othersUp r free b house 0 = [] := rfl
theorem othersUp_yes {k : Nat} (h : k ≠ house) : othersUp r free b house (k + 1) = othersUp r free b house k ++ [couldL r free b k] := by
  unfold othersUp; rw [List.range_succ, List.filter_append]; simp [h]
theorem othersUp_no {k : Nat} (h : k = house) : othersUp r free b house (k + 1) = othersUp r free b house k := by
  unfold othersUp; rw [List.range_succ, List.filter_append]; simp [h]
theorem othersUp_low : ∀ {k : Nat}, k ≤ house → othersUp r free b house k = (List.range k).map (couldL r free b)
  | 0, _ => rfl
  | k + 1, h => by rw [othersUp_yes (by omega), othersUp_low (by omega), List.range_succ]; simp
theorem othersUp_len : ∀ (k : Nat), (othersUp r free b house k).length = if house < k then k - 1 else k
  | 0 => rfl
  | k + 1 => by
    have ih := othersUp_len k
    by_cases h : k = house
    · rw [othersUp_no h, ih, if_neg (by omega), if_pos (by omega)]; omega
    · rw [othersUp_yes h, List.length_append, ih, List.length_singleton]
      by_cases h2 : house < k
      · rw [if_pos h2, if_pos (by omega)]; omega
      · rw [if_neg h2, if_neg (by omega)]
theorem othersUp_at : ∀ (k i : Nat), i < (if house < k then k - 1 else k) → rowN (othersUp r free b house k) i = couldL r free b (if i < house then i else i + 1)
  | 0, i, h => by simp at h
  | k + 1, i, h => by
    have hl := @othersUp_len r free b house k
    by_cases hk : k = house
    · rw [othersUp_no hk]
      refine othersUp_at k i ?_
      rw [if_pos (by omega)] at h
      rw [if_neg (by omega)]; omega
    · rw [othersUp_yes hk]
      by_cases hi : i < (othersUp r free b house k).length
      · have := othersUp_at k i (by rw [← hl]; exact hi)
        rw [← this]; unfold rowN
        rw [List.getD_eq_getElem?_getD, List.getD_eq_getElem?_getD, List.getElem?_append_left hi]
      · have hie : i = (othersUp r free b house k).length := by
          rw [hl]; rw [hl] at hi
          by_cases h2 : house < k
          · rw [if_pos h2] at hi ⊢; rw [if_pos (by omega)] at h; omega
          · rw [if_neg h2] at hi ⊢; rw [if_neg (by omega)] at h; omega
        have hki : (if i < house then i else i + 1) = k := by
          rw [hie, hl]
          by_cases h2 : house < k
          · rw [if_pos h2, if_neg (by omega)]; omega
          · rw [if_neg h2, if_pos (by omega)]
        rw [hki]; unfold rowN
        rw [List.getD_eq_getElem?_getD, List.getElem?_append_right (by omega), hie]; simp
end
/-- A number of the house goes with the others' sums just if a choice has it. -/
theorem own_hit {r : Round} (_hB : RoundB r) {free b : Int} {house : Nat} (hh : house < r.houses.length) {x : Int} (hx : x ∈ couldL r free b house) :
    (∃ n, r.all - r.off - x ≤ n ∧ n ≤ r.all + r.off - x ∧ sumsP (othersUp r free b house r.houses.length) (othersUp r free b house r.houses.length).length n) ↔ ∃ f a, PickR r free b f a ∧ f house = x := by
  have hl : (othersUp r free b house r.houses.length).length = r.houses.length - 1 := by rw [othersUp_len, if_pos hh]
  rw [hl]
  have hrow : ∀ i, i < r.houses.length - 1 → rowN (othersUp r free b house r.houses.length) i = couldL r free b (if i < house then i else i + 1) := fun i hi => othersUp_at _ i (by rw [if_pos hh]; exact hi)
  constructor
  · rintro ⟨n, h1, h2, h3⟩
    obtain ⟨f, h4, h5⟩ := (sumsP_iff _ n).1 h3
    let g : Nat → Int := fun j => if j < house then f j else if j = house then x else f (j - 1)
    refine ⟨g, n + x, ⟨fun j hj => ?_, ?_, by omega, by omega⟩, ?_⟩
    · by_cases e1 : j < house
      · have := h4 j (by omega)
        rw [hrow j (by omega), if_pos e1] at this
        show ownS r free b j (g j)
        simp only [g, e1, if_true]
        exact (mem_couldL hj).1 this
      · by_cases e2 : j = house
        · subst e2
          show ownS r free b j (g j)
          simp only [g, Nat.lt_irrefl, if_false, if_true]
          exact (mem_couldL hj).1 hx
        · have := h4 (j - 1) (by omega)
          rw [hrow (j - 1) (by omega), if_neg (by omega), show j - 1 + 1 = j by omega] at this
          show ownS r free b j (g j)
          simp only [g, e1, e2, if_false]
          exact (mem_couldL hj).1 this
    · have hsp := sumF_add f 0 house (r.houses.length - 1 - house)
      rw [show house + (r.houses.length - 1 - house) = r.houses.length - 1 by omega] at hsp
      rw [sumF_at g hh, h5, hsp, Nat.zero_add]
      have e1 : sumF g 0 house = sumF f 0 house := sumF_congr (fun i _ hi => by simp only [g]; rw [if_pos (by omega)])
      have e2 : sumF g (house + 1) (r.houses.length - 1 - house) = sumF f house (r.houses.length - 1 - house) := by
        rw [sumF_shift]
        exact sumF_congr (fun i hi _ => by simp only [g]; rw [if_neg (by omega), if_neg (by omega)]; rfl)
      have e3 : g house = x := by simp [g]
      rw [e1, e2, e3]; omega
    · simp [g]
  · rintro ⟨f, a, ⟨h1, h2, h3, h4⟩, rfl⟩
    refine ⟨a - f house, by omega, by omega, (sumsP_iff _ _).2 ⟨fun j => if j < house then f j else f (j + 1), fun i hi => ?_, ?_⟩⟩
    · rw [hrow i hi]
      by_cases e : i < house
      · simp only [e, if_true]; exact (mem_couldL (by omega)).2 (h1 i (by omega))
      · simp only [e, if_false]; exact (mem_couldL (by omega)).2 (h1 (i + 1) (by omega))
    · have hsp := sumF_add (fun j => if j < house then f j else f (j + 1)) 0 house (r.houses.length - 1 - house)
      rw [show house + (r.houses.length - 1 - house) = r.houses.length - 1 by omega, Nat.zero_add] at hsp
      rw [hsp, h2, sumF_at f hh]
      have e1 : sumF (fun j => if j < house then f j else f (j + 1)) 0 house = sumF f 0 house := sumF_congr (fun i _ hi => by rw [if_pos (by omega)])
      have e2 : sumF (fun j => if j < house then f j else f (j + 1)) house (r.houses.length - 1 - house) = sumF f (house + 1) (r.houses.length - 1 - house) := by
        rw [sumF_shift]
        exact sumF_congr (fun i hi _ => by rw [if_neg (by omega)])
      rw [e1, e2]; omega
theorem couldL_bd {r : Round} (hB : RoundB r) {free b : Int} {i : Nat} (hi : i < r.houses.length) {n : Int} (h : n ∈ couldL r free b i) : 0 ≤ n ∧ n ≤ 3000 := by
  have h0 := (mem_couldL hi).1 h
  obtain ⟨hs, h1, x, hx, rfl⟩ := h0
  obtain ⟨h2, h3, _, h4, _⟩ := mem_ways hx
  have hbad := badHouse_iff.1 (hB.hs hs (List.mem_of_getElem? h1))
  have hp := hB.p1
  have := Int.mul_nonneg (a := r.per) (b := x.1) (by omega) h3
  unfold okB canB at h2
  simp only [Bool.and_eq_true, decide_eq_true_eq] at h2
  have h5 := h2.1.1.2
  exact ⟨by unfold nOf; omega, by omega⟩
theorem couldL_len {r : Round} (hB : RoundB r) {free b : Int} {i : Nat} (hi : i < r.houses.length) : (couldL r free b i).length ≤ 2200 := by
  unfold couldL
  have e : r.houses[i]? = some (r.houses[i]) := List.getElem?_eq_getElem hi
  rw [List.getD_eq_getElem?_getD, e]
  simp only [Option.getD_some]
  have hbad := badHouse_iff.1 (hB.hs _ (List.getElem_mem hi))
  have hp := hB.p1
  have hp2 := hB.p2
  rw [← numsAt_end _ rfl]
  have h1 := @numsAt_len r b (r.houses[i]) (decide ((i : Int) = free)) ((r.houses[i]).cards + 1).toNat 0
  have h2 : ((r.houses[i]).cards + 1).toNat ≤ 61 := by omega
  have h3 : r.per.toNat ≤ 36 := by omega
  have := Nat.mul_le_mul h2 h3
  omega
theorem othersUp_mem {r : Round} (hB : RoundB r) {free b : Int} {house k : Nat} (hk : k ≤ r.houses.length) : ∀ l, l ∈ othersUp r free b house k → ∀ y, y ∈ l → 0 ≤ y ∧ y ≤ 3000 := by
  intro l hl y hy
  unfold othersUp at hl
  obtain ⟨i, hi, rfl⟩ := List.mem_map.1 hl
  have := List.mem_range.1 (List.mem_filter.1 hi).1
  exact couldL_bd hB (by omega) hy

/-! ### In memory -/
theorem owns_ne {W : World} {base base' : Nat} {e e' : TypeId} {size size' : Nat} {v v' : Value} {n n' : Nat} {xs xs' : List Value} (h : W.ownsRow base e size v n xs) (h' : W.ownsRow base' e' size' v' n' xs') (he : e ≠ e') : v.ownBlock = none ∨ v.ownBlock ≠ v'.ownBlock := by
  rcases h.2 with ⟨rfl, _⟩ | ⟨g, cap, cur, rfl, _, hg, _⟩
  · exact .inl rfl
  · right; intro e2
    rcases h'.2 with ⟨rfl, _⟩ | ⟨g', cap', cur', rfl, _, hg', _⟩
    · simp [Value.ownBlock] at e2
    · have : g = g' := by simpa [Value.ownBlock] using e2
      subst this
      rw [hg] at hg'; cases hg'; exact he rfl
/-- A slice of lists, each in a block of its own. -/
def ListsOwn (W : World) (base : Nat) (v : Value) (xss : List (List Int)) : Prop := ∃ vals : List Value, vals.length = xss.length ∧ W.ownsRow base 27 1 v xss.length vals ∧ ∀ (i : Nat) (u : Value) (xs : List Int), vals[i]? = some u → xss[i]? = some xs → W.ownsRow base 3 1 u xs.length (xs.map (.int .i64))
theorem ListsOwn.nil (W : World) (base : Nat) : ListsOwn W base (.slice none 0 0) [] := ⟨[], rfl, World.ownsRow_nil _ _ _ _, fun i u xs h => by simp at h⟩
theorem ListsOwn.ext {W W' : World} {base : Nat} {v : Value} {xss : List (List Int)} (h : ListsOwn W base v xss) (k : Ext W W') : ListsOwn W' base v xss := by
  obtain ⟨vals, h1, h2, h3⟩ := h; exact ⟨vals, h1, owns_ext h2 k, fun i u xs hu hx => owns_ext (h3 i u xs hu hx) k⟩
theorem ListsOwn.rows {W : World} {base : Nat} {v : Value} {xss : List (List Int)} (h : ListsOwn W base v xss) : RowsAt W v xss := by
  obtain ⟨vals, h1, h2, h3⟩ := h; exact ⟨vals, h1, RowAt.of_owns h2, fun i u xs hu hx => IntsAt.of_owns (h3 i u xs hu hx)⟩
theorem lists_push {W W' : World} {base g cap : Nat} {v u : Value} {xss : List (List Int)} {xs : List Int} {t : TypeId} {vals : List Value} (h1 : vals.length = xss.length) (h2 : W.ownsRow base 27 1 v xss.length vals) (h3 : ∀ (i : Nat) (u : Value) (xs : List Int), vals[i]? = some u → xss[i]? = some xs → W.ownsRow base 3 1 u xs.length (xs.map (.int .i64)))
    (hu : W.ownsRow base 3 1 u xs.length (xs.map (.int .i64))) (own : W'.ownsRow base 27 1 (.slice (some ⟨g, 0, none⟩) (xss.length + 1) cap) (xss.length + 1) (vals ++ [u])) (hg : (W.alloc (.cells #[u] t)).grownBy W' v.ownBlock) : ListsOwn W' base (.slice (some ⟨g, 0, none⟩) (xss.length + 1) cap) (xss ++ [xs]) := by
  have key : ∀ (z : Value) (zs : List Int), W.ownsRow base 3 1 z zs.length (zs.map (.int .i64)) → W'.ownsRow base 3 1 z zs.length (zs.map (.int .i64)) := fun z zs hz =>
    (hz.alloc _).kept hg (owns_ne hz h2 (by decide))
  refine ⟨vals ++ [u], by simp [h1], by rw [List.length_append]; exact own, fun i z zs hz hzs => ?_⟩
  rcases Nat.lt_or_ge i vals.length with hi | hi
  · rw [List.getElem?_append_left hi] at hz
    rw [List.getElem?_append_left (by omega)] at hzs
    exact key z zs (h3 i z zs hz hzs)
  · have hie : i = vals.length := by
      have := (List.getElem?_eq_some_iff.1 hz).1
      rw [List.length_append, List.length_singleton] at this; omega
    subst hie
    rw [List.getElem?_append_right (Nat.le_refl _)] at hz
    rw [List.getElem?_append_right (by omega), h1] at hzs
    simp at hz hzs
    subst hz hzs
    exact key _ _ hu
end Go.Proofs.YtpheidlocijdkaaGreatDoor

/- The reference's own: the walk. -/
namespace Go.Proofs.YtpheidlocijdkaaGreatDoor
open Go.RowKit

def OwnRes (P : Int → Prop) (w : World) (e : Ending) (w' : World) : Prop := ∃ (v : Value) (xs : List Int), e = .returned v ∧ Ext w w' ∧ IntsAt w' v xs ∧ ∀ m, m ∈ xs ↔ P m
abbrev boxR (r : Round) (a : Option Addr) (c : Nat) : Obj := .cells #[.int .i64 r.per, .int .i64 r.lo, .int .i64 r.hi, .int .i64 r.card, .int .i64 r.slack, .slice a r.houses.length c, .int .i64 r.all, .int .i64 r.off] 26
/-- What has been found of house when the buttons before b, and k numbers of the list for b, have been gone through. -/
def ownP (r : Round) (free : Int) (house : Nat) (b : Int) (ls : List Int) (k : Nat) (m : Int) : Prop := houseR r free b house m ∨ ∃ i, i < k ∧ ls[i]? = some m ∧ ∃ f a, PickR r free b f a ∧ f house = m
theorem ownP_zero {r : Round} {free : Int} {house : Nat} {b : Int} {ls : List Int} (m : Int) : ownP r free house b ls 0 m ↔ houseR r free b house m :=
  ⟨fun h => h.elim id (fun ⟨i, h, _⟩ => by omega), .inl⟩
theorem ownP_yes {r : Round} {free : Int} {house : Nat} {b : Int} {ls : List Int} {k : Nat} {x : Int} (hx : ls[k]? = some x) (h : ∃ f a, PickR r free b f a ∧ f house = x) (m : Int) : (ownP r free house b ls k m ∨ m = x) ↔ ownP r free house b ls (k + 1) m := by
  constructor
  · rintro ((h1 | ⟨i, h1, h2⟩) | rfl)
    · exact .inl h1
    · exact .inr ⟨i, by omega, h2⟩
    · exact .inr ⟨k, by omega, hx, h⟩
  · rintro (h1 | ⟨i, h1, h2, h3⟩)
    · exact .inl (.inl h1)
    · by_cases e : i = k
      · subst e; rw [hx] at h2; cases h2; exact .inr rfl
      · exact .inl (.inr ⟨i, by omega, h2, h3⟩)
theorem ownP_no {r : Round} {free : Int} {house : Nat} {b : Int} {ls : List Int} {k : Nat} {x : Int} (hx : ls[k]? = some x) (h : ¬ ∃ f a, PickR r free b f a ∧ f house = x) (m : Int) : ownP r free house b ls k m ↔ ownP r free house b ls (k + 1) m := by
  constructor
  · rintro (h1 | ⟨i, h1, h2⟩)
    · exact .inl h1
    · exact .inr ⟨i, by omega, h2⟩
  · rintro (h1 | ⟨i, h1, h2, h3⟩)
    · exact .inl h1
    · by_cases e : i = k
      · subst e; rw [hx] at h2; cases h2; exact absurd h3 h
      · exact .inr ⟨i, by omega, h2, h3⟩
theorem ownP_end {r : Round} (hB : RoundB r) {free : Int} {house : Nat} (hh : house < r.houses.length) {b : Int} (hb : r.lo ≤ b) (m : Int) : ownP r free house b (couldL r free b house) (couldL r free b house).length m ↔ houseR r free (b + 1) house m := by
  rw [houseR_iff hB hh]
  constructor
  · rintro (h1 | ⟨i, _, _, f, a, h2, h3⟩)
    · obtain ⟨b', f, a, h2, h3, h4⟩ := (houseR_iff hB hh).1 h1
      exact ⟨b', f, a, h2, by omega, h4⟩
    · exact ⟨b, f, a, hb, by omega, h2, h3⟩
  · rintro ⟨b', f, a, h1, h2, h3, rfl⟩
    by_cases e : b' = b
    · subst e
      right
      have hm := (mem_couldL hh).2 (h3.1 house hh)
      obtain ⟨i, hi, he⟩ := List.mem_iff_getElem.1 hm
      exact ⟨i, hi, by rw [List.getElem?_eq_getElem hi, he], f, a, h3, rfl⟩
    · exact .inl ((houseR_iff hB hh).2 ⟨b', f, a, h1, by omega, h3, rfl⟩)
/-- Whether a mark is set among those from lo on, before n. -/
def canP (P : Int → Prop) (lo : Int) (n : Nat) : Prop := ∃ m : Nat, lo ≤ m ∧ m < n ∧ P m
theorem canP_yes {P : Int → Prop} {lo : Int} {n : Nat} (hl : lo ≤ n) (h : P n) : canP P lo (n + 1) := ⟨n, hl, by omega, h⟩
theorem canP_no {P : Int → Prop} {lo : Int} {n : Nat} (h : ¬ P n) : canP P lo (n + 1) ↔ canP P lo n := by
  constructor
  · rintro ⟨m, h1, h2, h3⟩
    by_cases e : m = n
    · subst e; exact absurd h3 h
    · exact ⟨m, h1, by omega, h3⟩
  · rintro ⟨m, h1, h2, h3⟩; exact ⟨m, h1, by omega, h3⟩
theorem canP_mono {P : Int → Prop} {lo : Int} {n : Nat} (h : canP P lo n) : canP P lo (n + 1) := by
  obtain ⟨m, h1, h2, h3⟩ := h; exact ⟨m, h1, by omega, h3⟩
theorem sums_small {xss : List (List Int)} (hm : ∀ l, l ∈ xss → ∀ y, y ∈ l → 0 ≤ y ∧ y ≤ 3000) : ∀ (k : Nat) (n : Int), k ≤ xss.length → sumsP xss k n → 0 ≤ n ∧ n ≤ 3000 * k
  | 0, n, _, h => by have : n = 0 := h; omega
  | k + 1, n, hk, ⟨x, y, h1, h2, h3⟩ => by
    have ih := sums_small hm k x (by omega) h1
    have hr : rowN xss k = xss[k]'(by omega) := by unfold rowN; rw [List.getD_eq_getElem?_getD, List.getElem?_eq_getElem (show k < xss.length by omega)]; rfl
    have hy := hm _ (List.getElem_mem (show k < xss.length by omega)) y (hr ▸ h2)
    push_cast; omega
/-- The end of the loop over the marks. -/
theorem canP_end {r : Round} (hB : RoundB r) {free b : Int} {house : Nat} (hh : house < r.houses.length) {x : Int} (hx : x ∈ couldL r free b house) {n : Nat} (hn : ¬ ((n : Int) ≤ r.all + r.off - x ∧ n < 12001)) (hle : n = 0 ∨ (n : Int) ≤ r.all + r.off - x + 1 ∨ (n : Int) ≤ max 0 (r.all - r.off - x)) :
    canP (sumsP (othersUp r free b house r.houses.length) (othersUp r free b house r.houses.length).length) (max 0 (r.all - r.off - x)) n ↔ ∃ f a, PickR r free b f a ∧ f house = x := by
  rw [← own_hit hB hh hx]
  have hl : (othersUp r free b house r.houses.length).length = r.houses.length - 1 := by rw [othersUp_len, if_pos hh]
  have h4 := hB.h2
  constructor
  · rintro ⟨m, h1, h2, h3⟩
    exact ⟨m, by omega, by omega, h3⟩
  · rintro ⟨m, h1, h2, h3⟩
    have hs := sums_small (othersUp_mem hB (Nat.le_refl _)) _ m (Nat.le_refl _) h3
    rw [hl] at hs
    obtain ⟨k, rfl⟩ := Int.eq_ofNat_of_zero_le hs.1
    have h9 : (k : Int) ≤ 9000 := by omega
    exact ⟨k, by omega, by omega, h3⟩

theorem bool_eq_free (i : Nat) (free : Int) : ((i : Int) == free) = decide ((i : Int) = free) := by
  by_cases h : (i : Int) = free
  · simp [h]
  · simp [h]
/-- What one more number found leaves of all that lies beside. -/
theorem own_step {W W7 : World} {base g g3 cap3 bb : Nat} {P : Int → Prop} {out lv : Value} {ys L : List Int} {x : Int} {t : TypeId} {o : Obj} (hown : W.ownsRow base 3 1 out ys.length (ys.map (.int .i64))) (hL : W.ownsRow base 3 1 lv L.length (L.map (.int .i64))) (hdis : Dis out lv) (hM : MarksOn W base g P)
    (hb : W.heap[bb]? = some o) (hbb : bb < base) (hgr : (W.alloc (.cells #[.int .i64 x] t)).grownBy W7 out.ownBlock) (hloc : out.ownBlock = some g3 ∨ g3 = W.heap.size + 1) :
    W7.ownsRow base 3 1 lv L.length (L.map (.int .i64)) ∧ Dis (.slice (some ⟨g3, 0, none⟩) (ys.length + 1) cap3) lv ∧ MarksOn W7 base g P ∧ W7.heap[bb]? = some o := by
  refine ⟨(hL.alloc _).kept hgr ?_, fun k hk hk' => ?_, (hM.ext ((Ext.refl W).alloc _)).kept hgr (fun e => ?_), kept_push hgr hb (owns_block hown) hbb⟩
  · cases hv : lv.ownBlock with
    | none => exact .inl rfl
    | some k => right; intro e; exact hdis k e.symm hv
  · have hk3 : g3 = k := by simpa [Value.ownBlock] using hk
    subst hk3
    rcases hloc with h | h
    · exact hdis _ h hk'
    · have := (World.ownsRow.lt hL _ hk').2; omega
  · obtain ⟨xs, q1, _⟩ := hM
    rcases owns_ne q1 hown (by decide) with h | h
    · simp [Value.ownBlock] at h
    · exact h (by simpa [Value.ownBlock] using e)
set_option maxRecDepth 100000 in
set_option maxHeartbeats 8000000 in
theorem rown_any (v : Value) (r : Round) (house : Nat) (free : Int) (w : World) (hr : RoundAt w v r) (hB : RoundB r) (hh : house < r.houses.length) :
    Calls Tryz.prog 65 #[v, .int .i64 house, .int .i64 free] w (OwnRes (houseR r free (r.hi + 1) house) w) := by
  obtain ⟨hv, rfl, hH⟩ := hr
  have hr' : RoundAt w (.agg (r.cells hv).toArray) r := ⟨hv, rfl, hH⟩
  have HCO := Lib.hid (fun (i : Nat) (b : Int) (fr : Bool) (hi : i < r.houses.length) (h1 : r.lo ≤ b) (h2 : b ≤ r.hi) (he : fr = decide ((i : Int) = free)) w1 (hx : Ext w w1) =>
    (rcould_any _ r i (r.houses[i]'hi) b fr w1 (hr'.ext hx) hB (List.getElem?_eq_getElem hi) h1 h2).mono (R' := CouldRes (couldL r free b i) w1) (fun e w' h => by
      unfold couldL; rw [List.getD_eq_getElem?_getD, List.getElem?_eq_getElem hi, ← he]; exact h))
  unfold Round.cells at *
  obtain ⟨a, c, rfl, h1, h2, _⟩ := hH.open
  clear hr' hH
  have n1 := hB.h1
  have n2 := hB.h2
  have l1 := hB.l1
  have l2 := hB.l2
  have l3 := hB.l3
  have l4 := hB.l4
  have a1 := hB.a1
  have a2 := hB.a2
  have o1 := hB.o1
  have o2 := hB.o2
  have hx0 : Ext w (w.alloc (boxR r a c)) := (Ext.refl w).alloc _
  have hb0 := World.alloc_heap_new w (boxR r a c)
  have hmix : Tryz.prog.follows .mixedOrders = true := by kernel_rfl
  go_enter Tryz.func65, Tryz.ntmps65
  go_wp2
  go_loopw [7, 8] (fun out bv wr => ∃ (b : Int) (xs : List Int), r.lo ≤ b ∧ b ≤ r.hi + 1 ∧ bv = .int .i64 b ∧ wr.ownsRow (w.heap.size + 1) 3 1 out xs.length (xs.map (.int .i64)) ∧ Hid (∀ m, m ∈ xs ↔ houseR r free b house m) ∧ (xs.length : Int) ≤ (b - r.lo) * 2200 ∧ Ext w wr ∧ Hid (wr.heap[w.heap.size]? = some (boxR r a c))) (fun _ bv _ => (r.hi + 1 - intOf bv).toNat)
  case atStart => exact ⟨r.lo, [], Int.le_refl _, by omega, rfl, World.ownsRow_nil _ _ _ _, fun m => ⟨fun h => by simp at h, fun h => (houseR_lo house m h).elim⟩, by simp, hx0, hb0⟩
  case round =>
    clear hx0 hb0
    obtain ⟨b, xs, hb1, hb2, rfl, hown, hmem, hlen, hx, hbx⟩ := hrel
    obtain ⟨z0, z1, z2, z3, z4, z5, z6, z7⟩ := round_cells hbx.out
    by_cases hbl : b ≤ r.hi
    · have x1 : decide (b ≤ r.hi) = true := by simpa using hbl
      have HB0 := Lib.hid (And.intro hown (And.intro hx hbx.out))
      have hbk := (Array.getElem?_eq_some_iff.1 hbx.out).1
      clear hown
      go_wp2
      obtain ⟨wo, rfl⟩ : ∃ wo : World, wo = wr := ⟨_, rfl⟩
      go_loopw [9, 10] (fun ov iv wr => ∃ k : Nat, k ≤ r.houses.length ∧ iv = .int .i64 k ∧ ListsOwn wr (w.heap.size + 1) ov (othersUp r free b house k) ∧ Ext w wr ∧ wr.ownsRow (w.heap.size + 1) 3 1 u7 xs.length (xs.map (.int .i64)) ∧ Hid (wr.heap[w.heap.size]? = some (boxR r a c))) (fun _ iv _ => r.houses.length - (intOf iv).toNat)
      case atStart => exact ⟨0, Nat.zero_le _, rfl, ListsOwn.nil _ _, HB0.out.2.1, HB0.out.1, HB0.out.2.2⟩
      case round =>
        clear HB0 hx hbx z0 z1 z2 z3 z4 z5 z6 z7 x1 hbk
        obtain ⟨k, hk, rfl, hL, hx, hown, hbx⟩ := hrel
        obtain ⟨z0, z1, z2, z3, z4, z5, z6, z7⟩ := round_cells hbx.out
        have hbk := (Array.getElem?_eq_some_iff.1 hbx.out).1
        by_cases hlt : k < r.houses.length
        · have x2 : decide ((k : Int) < (r.houses.length : Int)) = true := by simpa using hlt
          by_cases hkh : k = house
          · subst hkh
            have HN := Lib.hid (show othersUp r free b k (k + 1) = othersUp r free b k k from othersUp_no rfl)
            have x3 : ((k : Int) != (k : Int)) = false := by simp
            clear hh
            go_wp2
            exact ⟨⟨k + 1, by omega, by go_num, by rw [HN.out]; exact hL, hx, hown, hbx⟩, by simp [intOf]; omega⟩
          · have HN := Lib.hid (show othersUp r free b house (k + 1) = othersUp r free b house k ++ [couldL r free b k] from othersUp_yes hkh)
            have x3 : ((k : Int) == (house : Int)) = false := by rw [beq_eq_false_iff_ne]; omega
            have x4 : (k == house) = false := by rw [beq_eq_false_iff_ne]; exact hkh
            have HC1 := Lib.hid (HCO.out k b ((k : Int) == free) hlt hb1 hbl (bool_eq_free k free) wr hx)
            obtain ⟨vals, v1, v2, v3⟩ := hL
            have hsz : (othersUp r free b house k).length + 1 ≤ maxLen ∧ ((othersUp r free b house k).length + 1) * 24 ≤ 140737488355328 := by
              have := @othersUp_len r free b house k
              have h5 : (othersUp r free b house k).length ≤ k := by rw [this]; split <;> omega
              unfold maxLen; omega
            have HSZ := Lib.hid hsz
            have HV := Lib.hid (And.intro v1 (And.intro v2 v3))
            clear hsz hkh v1 v2 v3
            go_wp2_with (first
              | (go_at_call 101; refine HC1.out.mono ?_; rintro e w1 ⟨u, rfl, hx1, hu⟩; have hbz : w.heap.size + 1 ≤ w1.heap.size := by have := hx1.size; omega
                 have hu' := owns_lower hu (show w.heap.size + 1 ≤ wr.heap.size from hbk); obtain ⟨ua, uc, rfl, _⟩ := (IntsAt.of_owns hu').open; have HU := Lib.hid hu'; clear hu hu')
              | (at_builtin; refine wpList_push E_rows rfl _ _ rfl (w.heap.size + 1) rfl (owns_ext HV.out.2.1 hx1) rfl rfl (by simp [Value.oneCell']) ?_ HSZ.out.1 HSZ.out.2 hbz; intro g cap w7 hown' hext hgr))
            go_roundw
            case rel =>
              refine ⟨k + 1, by omega, by go_num, ?_, hext _ (hx.trans hx1) (Nat.le_succ _), ?_, ?_⟩
              · rw [HN.out]
                exact lists_push HV.out.1 (owns_ext HV.out.2.1 hx1) (fun i u xs hu hx => owns_ext (HV.out.2.2 i u xs hu hx) hx1) HU.out hown' hgr
              · exact ((owns_ext hown hx1).alloc _).kept hgr (owns_ne (owns_ext hown hx1) (owns_ext HV.out.2.1 hx1) (by decide))
              · exact kept_push hgr ((hx1.block hbk).trans hbx.out) (owns_block HV.out.2.1) (Nat.lt_succ_self _)
            case measure => simp [intOf]; omega
        · have hke : k = r.houses.length := by omega
          subst hke
          have x2 : decide ((r.houses.length : Int) < (r.houses.length : Int)) = false := by simp
          have HS := Lib.hid (rsums_any _ _ wr hL.rows (othersUp_mem hB (Nat.le_refl _)))
          have HC1 := Lib.hid (fun w1 hx => HCO.out house b ((house : Int) == free) hh hb1 hbl (bool_eq_free house free) w1 hx)
          have HEND := Lib.hid (fun x (hx : x ∈ couldL r free b house) (n : Nat) hn hle => canP_end hB hh hx (n := n) hn hle)
          have HBD := Lib.hid (fun x (hx : x ∈ couldL r free b house) => couldL_bd hB hh hx)
          have hLN := couldL_len hB (free := free) (b := b) hh
          have HE := Lib.hid (fun m => ownP_end hB hh (free := free) hb1 m)
          obtain ⟨oa, ok, hov, _⟩ := hL.rows.open
          subst hov
          clear hL
          go_wp2_with (first
            | (go_at_call 102; refine HS.out.mono ?_; rintro e w1 ⟨g, rfl, hx1, hM⟩; clear z0 z1 z2 z3 z4 z5 z6 z7; obtain ⟨z0, z1, z2, z3, z4, z5, z6, z7⟩ := round_cells ((hx1.block hbk).trans hbx.out))
            | (go_at_call 101; refine (HC1.out _ (hx.trans hx1)).mono ?_; rintro e w2 ⟨u, rfl, hx2, hu⟩; have hsz1 := hx1.size; have hsz2 := hx2.size; have hu' := owns_lower hu (show w.heap.size + 1 ≤ w1.heap.size by omega); obtain ⟨ua, uc, hue, _⟩ := (IntsAt.of_owns hu').open; have hdis : Dis u7 u := (fun g1 hg1 hg2 => by have := (World.ownsRow.lt hown g1 hg1).2; have := owns_block hu g1 hg2; omega); subst hue; have HU := Lib.hid hu'; clear hu hu'))
          have hM2 := hM.ext hx2
          have hxw := (hx.trans hx1).trans hx2
          have hown2 := owns_ext hown (hx1.trans hx2)
          have hbx2 := Lib.hid (((hx1.trans hx2).block hbk).trans hbx.out)
          have hgb0 : w.heap.size + 1 ≤ wr.heap.size := hbk
          have hgb : w.heap.size + 1 ≤ g := by have := hM.lt; omega
          clear hx hx1 hx2 hM hown hbx z0 z1 z2 z3 z4 z5 z6 z7 hsz1 hsz2 HS HC1 x2
          generalize hPe : sumsP (othersUp r free b house r.houses.length) (othersUp r free b house r.houses.length).length = P at hM2 HEND
          generalize hLe : couldL r free b house = L at HEND HBD hLN HE HU hdis ⊢
          have HXS := Lib.hid hmem.out
          go_loopw [7, 13] (fun out iv wr => ∃ (k : Nat) (ys : List Int), k ≤ L.length ∧ iv = .int .i64 k ∧ wr.ownsRow (w.heap.size + 1) 3 1 out ys.length (ys.map (.int .i64)) ∧ Hid (∀ m, m ∈ ys ↔ ownP r free house b L k m) ∧ ys.length ≤ xs.length + k ∧ Hid (wr.ownsRow (w.heap.size + 1) 3 1 (.slice ua L.length uc) L.length (L.map (.int .i64))) ∧ Dis out (.slice ua L.length uc) ∧ MarksOn wr (w.heap.size + 1) g P ∧ Ext w wr ∧ Hid (wr.heap[w.heap.size]? = some (boxR r a c))) (fun _ iv _ => L.length - (intOf iv).toNat)
          case atStart => 
            refine ⟨0, xs, Nat.zero_le _, rfl, hown2, fun m => (HXS.out m).trans (ownP_zero m).symm, by omega, HU.out, hdis, ?_, hxw, hbx2⟩
            obtain ⟨q1, q2, q3⟩ := hM2
            exact ⟨q1, owns_lower q2 hgb0, q3⟩
          case round =>
            clear hM2 hxw hown2 hbx2 HU hdis
            obtain ⟨k, ys, hk, rfl, hown, hmy, hyl, hLo, hdis, hM, hx, hbx⟩ := hrel
            obtain ⟨z0, z1, z2, z3, z4, z5, z6, z7⟩ := round_cells hbx.out
            have hbk := (Array.getElem?_eq_some_iff.1 hbx.out).1
            by_cases hlt : k < L.length
            · have x2 : decide ((k : Int) < (L.length : Int)) = true := by simpa using hlt
              obtain ⟨_, _, he, _, _, h3⟩ := (IntsAt.of_owns hLo.out).open
              cases he
              obtain ⟨b2, o2, x, hua, hxk, hcx⟩ := h3 k hlt
              subst hua
              have hxm := List.mem_of_getElem? hxk.out
              have hxb := HBD.out x hxm
              obtain ⟨xn, rfl⟩ := Int.eq_ofNat_of_zero_le hxb.1
              have hx3 : xn ≤ 3000 := by omega
              have HN0 := Lib.hid (HEND.out xn hxm)
              obtain ⟨n0, hn0⟩ : ∃ n0 : Nat, max 0 (r.all - r.off - (xn : Int)) = n0 := ⟨(max 0 (r.all - r.off - (xn : Int))).toNat, by omega⟩
              have hn0b : n0 ≤ 12000 := by omega
              have HN0E := Lib.hid hn0
              have HX := Lib.hid (And.intro hown (And.intro hM hx))
              have E1 : IntKind.i64.wrap (r.all - r.off) = r.all - r.off := IntWalk.i64_in _ (by omega)
              have E2 : IntKind.i64.wrap (r.all - r.off - (xn : Int)) = r.all - r.off - (xn : Int) := IntWalk.i64_in _ (by omega)
              clear h3 hxb hM hx hown
              go_wp2
              go_quiet (fail)
              clear hn0 E1 E2
              go_wp2
              obtain ⟨wo, rfl⟩ : ∃ wo : World, wo = wr := ⟨_, rfl⟩
              go_loopw [14, 15] (fun cv nv wr => ∃ (n : Nat) (cb : Bool), nv = .int .i64 n ∧ cv = .bool cb ∧ Hid (cb = true ↔ canP P (max 0 (r.all - r.off - (xn : Int))) n) ∧ n ≤ 12201 ∧ Hid (n = 0 ∨ (n : Int) ≤ r.all + r.off - xn + 1 ∨ (n : Int) ≤ max 0 (r.all - r.off - xn)) ∧ Hid (max 0 (r.all - r.off - (xn : Int)) ≤ n) ∧ Ext wo wr) (fun _ nv _ => 12202 - (intOf nv).toNat)
              case atStart => exact ⟨n0, false, rfl, rfl, ⟨(fun h => by cases h), (fun ⟨m, h1, h2, _⟩ => by rw [HN0E.out] at h1; omega)⟩, by omega, .inr (.inr (by rw [HN0E.out]; exact Int.le_refl _)), by rw [HN0E.out]; exact Int.le_refl _, (Ext.refl _).drewN _⟩
              case round =>
                obtain ⟨n, cb, rfl, rfl, hcan, hn1, hnle, hnlo, hx6⟩ := hrel
                have hbx6 := Lib.hid ((hx6.block hbk).trans hbx.out)
                clear z0 z1 z2 z3 z4 z5 z6 z7
                obtain ⟨z0, z1, z2, z3, z4, z5, z6, z7⟩ := round_cells hbx6.out
                have hcx6 := hx6.cell hcx
                have hM6 := HX.out.2.1.ext hx6
                have E1 : IntKind.i64.wrap (r.all + r.off) = r.all + r.off := IntWalk.i64_in _ (by omega)
                have E2 : IntKind.i64.wrap (r.all + r.off - (xn : Int)) = r.all + r.off - (xn : Int) := IntWalk.i64_in _ (by omega)
                by_cases hn : (n : Int) ≤ r.all + r.off - xn ∧ n < 12001
                · obtain ⟨hna, hnb⟩ := hn
                  have x3 : decide ((n : Int) ≤ r.all + r.off - (xn : Int)) = true := by simpa using hna
                  have x4 : decide ((n : Int) < 12001) = true := by simp; omega
                  have x5 : decide (n < 12001) = true := by simpa using hnb
                  obtain ⟨mb, hc1, _, hmb⟩ := hM6.read n hnb
                  have HMB := Lib.hid hmb
                  clear hM6 hmb
                  cases cb with
                  | true =>
                    have HR := Lib.hid (canP_mono (hcan.out.1 rfl))
                    go_wp2
                    go_quiet (fail)
                    clear E1 E2
                    go_wp2
                    go_roundw
                    case rel => exact ⟨n + 1, true, by go_num, rfl, ⟨fun _ => HR.out, fun _ => rfl⟩, by omega, .inr (.inl (by omega)), by have := hnlo.out; unfold Hid; omega, hx6.drewN _⟩
                    case measure => simp [intOf]; omega
                  | false =>
                    have hcn : ¬ canP P (max 0 (r.all - r.off - (xn : Int))) n := fun h => by have := hcan.out.2 h; cases this
                    cases mb with
                    | true =>
                      have HR := Lib.hid (canP_yes hnlo.out (HMB.out.1 rfl))
                      clear hcn
                      go_wp2
                      go_quiet (fail)
                      clear E1 E2
                      go_wp2
                      go_roundw
                      case rel => exact ⟨n + 1, true, by go_num, rfl, ⟨fun _ => HR.out, fun _ => rfl⟩, by omega, .inr (.inl (by omega)), by have := hnlo.out; unfold Hid; omega, hx6.drewN _⟩
                      case measure => simp [intOf]; omega
                    | false =>
                      have hPn : ¬ P n := fun h => by have := HMB.out.2 h; cases this
                      have HR := Lib.hid (fun h => hcn ((canP_no hPn).1 h))
                      clear hcn hPn
                      go_wp2
                      go_quiet (fail)
                      clear E1 E2
                      go_wp2
                      go_roundw
                      case rel => exact ⟨n + 1, false, by go_num, rfl, ⟨(fun h => by cases h), (fun h => absurd h HR.out)⟩, by omega, .inr (.inl (by omega)), by have := hnlo.out; unfold Hid; omega, hx6.drewN _⟩
                      case measure => simp [intOf]; omega
                · have hfits := HN0.out n hn hnle.out
                  have HCF := Lib.hid (hcan.out.trans hfits)
                  have hown6 := owns_ext HX.out.1 hx6
                  have hLo6 := owns_ext hLo.out hx6
                  have hM6' := hM6
                  have hxw6 := HX.out.2.2.trans hx6
                  have hbk6 := (Array.getElem?_eq_some_iff.1 hbx6.out).1
                  have HF := Lib.hid (And.intro hown6 (And.intro hLo6 (And.intro hM6 (And.intro hxw6 hbx6.out))))
                  clear hfits hown6 hLo6 hM6 hM6' hxw6
                  have hsz : ys.length + 1 ≤ maxLen ∧ (ys.length + 1) * 8 ≤ 140737488355328 := by
                    have h4 : (b - r.lo) * 2200 ≤ 4 * 2200 := Int.mul_le_mul_of_nonneg_right (by omega) (by omega)
                    unfold maxLen; omega
                  have HSZ := Lib.hid hsz
                  clear hsz
                  by_cases hna : (n : Int) ≤ r.all + r.off - xn
                  · have hnb : ¬ n < 12001 := fun h => hn ⟨hna, h⟩
                    have x3 : decide ((n : Int) ≤ r.all + r.off - (xn : Int)) = true := by simpa using hna
                    have x4 : decide ((n : Int) < 12001) = false := by simp; omega
                    have x5 : decide (n < 12001) = false := by simpa using hnb
                    cases cb with
                    | true =>
                      have HY := Lib.hid (ownP_yes (r := r) (free := free) (house := house) (b := b) hxk.out (HCF.out.1 rfl))
                      clear HCF hcan
                      go_wp2
                      go_quiet (fail)
                      clear E1 E2
                      have hW := Lib.hid (Ext.drewN (Ext.refl wr) nq)
                      have HF2 := Lib.hid (And.intro (owns_ext HF.out.1 hW.out) (And.intro (owns_ext HF.out.2.1 hW.out) (And.intro (HF.out.2.2.1.ext hW.out) (And.intro (HF.out.2.2.2.1.trans hW.out) ((hW.out.block hbk6).trans HF.out.2.2.2.2)))))
                      have hbz : w.heap.size + 1 ≤ (wr.drewN nq).heap.size := by have := hW.out.size; omega
                      have hzz : (wr.drewN nq).heap.size = wr.heap.size := by simp
                      have HZZ := Lib.hid hzz
                      clear hzz
                      generalize wr.drewN nq = wd at HF2 hbz HZZ ⊢
                      have hcxd : wd.cell? ⟨b2, o2 + k, none⟩ = some (.int .i64 (xn : Int)) := by
                        obtain ⟨_, _, he, _, _, h3⟩ := (IntsAt.of_owns HF2.out.2.1).open
                        cases he
                        obtain ⟨_, _, y, e1, hy, hc⟩ := h3 k hlt
                        cases e1
                        have : y = (xn : Int) := by have h1 := hy.out; have h2 := hxk.out; rw [h1] at h2; exact Option.some.inj h2
                        rw [← this]; exact hc
                      go_wp2_with (at_builtin; refine wpList_push_at E_ints rfl _ _ rfl (w.heap.size + 1) rfl HF2.out.1 rfl rfl rfl (by simp [Value.oneCell']) ?_ HSZ.out.1 HSZ.out.2 hbz; intro g3 cap3 w7 hown' hext hgr hloc)
                      go_roundw
                      case rel =>
                        obtain ⟨s1, s2, s3, s4⟩ := own_step (cap3 := cap3) HF2.out.1 HF2.out.2.1 hdis HF2.out.2.2.1 HF2.out.2.2.2.2 (Nat.lt_succ_self _) hgr hloc
                        exact ⟨k + 1, ys ++ [(xn : Int)], by omega, by go_num, by rw [List.length_append, List.map_append]; exact hown', fun m => by rw [List.mem_append, List.mem_singleton, hmy.out]; exact HY.out m, by rw [List.length_append, List.length_singleton]; omega, s1, s2, s3, hext _ HF2.out.2.2.2.1 (Nat.le_succ _), s4⟩
                      case measure => simp [intOf]; omega
                    | false =>
                      have HY := Lib.hid (ownP_no (r := r) (free := free) (house := house) (b := b) hxk.out (fun h => by have := HCF.out.2 h; cases this))
                      clear HCF hcan
                      go_wp2
                      go_quiet (fail)
                      clear E1 E2
                      have hW := Lib.hid (Ext.drewN (Ext.refl wr) nq)
                      go_wp2
                      go_roundw
                      case rel => exact ⟨k + 1, ys, by omega, by go_num, owns_ext HF.out.1 hW.out, fun m => (hmy.out m).trans (HY.out m), by omega, owns_ext HF.out.2.1 hW.out, hdis, HF.out.2.2.1.ext hW.out, HF.out.2.2.2.1.trans hW.out, (hW.out.block hbk6).trans HF.out.2.2.2.2⟩
                      case measure => simp [intOf]; omega
                  · have x3 : decide ((n : Int) ≤ r.all + r.off - (xn : Int)) = false := by simpa using hna
                    cases cb with
                    | true =>
                      have HY := Lib.hid (ownP_yes (r := r) (free := free) (house := house) (b := b) hxk.out (HCF.out.1 rfl))
                      clear HCF hcan
                      go_wp2
                      go_quiet (fail)
                      clear E1 E2
                      have hW := Lib.hid (Ext.drewN (Ext.refl wr) nq)
                      have HF2 := Lib.hid (And.intro (owns_ext HF.out.1 hW.out) (And.intro (owns_ext HF.out.2.1 hW.out) (And.intro (HF.out.2.2.1.ext hW.out) (And.intro (HF.out.2.2.2.1.trans hW.out) ((hW.out.block hbk6).trans HF.out.2.2.2.2)))))
                      have hbz : w.heap.size + 1 ≤ (wr.drewN nq).heap.size := by have := hW.out.size; omega
                      have hzz : (wr.drewN nq).heap.size = wr.heap.size := by simp
                      have HZZ := Lib.hid hzz
                      clear hzz
                      generalize wr.drewN nq = wd at HF2 hbz HZZ ⊢
                      have hcxd : wd.cell? ⟨b2, o2 + k, none⟩ = some (.int .i64 (xn : Int)) := by
                        obtain ⟨_, _, he, _, _, h3⟩ := (IntsAt.of_owns HF2.out.2.1).open
                        cases he
                        obtain ⟨_, _, y, e1, hy, hc⟩ := h3 k hlt
                        cases e1
                        have : y = (xn : Int) := by have h1 := hy.out; have h2 := hxk.out; rw [h1] at h2; exact Option.some.inj h2
                        rw [← this]; exact hc
                      go_wp2_with (at_builtin; refine wpList_push_at E_ints rfl _ _ rfl (w.heap.size + 1) rfl HF2.out.1 rfl rfl rfl (by simp [Value.oneCell']) ?_ HSZ.out.1 HSZ.out.2 hbz; intro g3 cap3 w7 hown' hext hgr hloc)
                      go_roundw
                      case rel =>
                        obtain ⟨s1, s2, s3, s4⟩ := own_step (cap3 := cap3) HF2.out.1 HF2.out.2.1 hdis HF2.out.2.2.1 HF2.out.2.2.2.2 (Nat.lt_succ_self _) hgr hloc
                        exact ⟨k + 1, ys ++ [(xn : Int)], by omega, by go_num, by rw [List.length_append, List.map_append]; exact hown', fun m => by rw [List.mem_append, List.mem_singleton, hmy.out]; exact HY.out m, by rw [List.length_append, List.length_singleton]; omega, s1, s2, s3, hext _ HF2.out.2.2.2.1 (Nat.le_succ _), s4⟩
                      case measure => simp [intOf]; omega
                    | false =>
                      have HY := Lib.hid (ownP_no (r := r) (free := free) (house := house) (b := b) hxk.out (fun h => by have := HCF.out.2 h; cases this))
                      clear HCF hcan
                      go_wp2
                      go_quiet (fail)
                      clear E1 E2
                      have hW := Lib.hid (Ext.drewN (Ext.refl wr) nq)
                      go_wp2
                      go_roundw
                      case rel => exact ⟨k + 1, ys, by omega, by go_num, owns_ext HF.out.1 hW.out, fun m => (hmy.out m).trans (HY.out m), by omega, owns_ext HF.out.2.1 hW.out, hdis, HF.out.2.2.1.ext hW.out, HF.out.2.2.2.1.trans hW.out, (hW.out.block hbk6).trans HF.out.2.2.2.2⟩
                      case measure => simp [intOf]; omega
            · have hke : k = L.length := by omega
              subst hke
              have x2 : decide ((L.length : Int) < (L.length : Int)) = false := by simp
              have HR := Lib.hid (fun m => (hmy.out m).trans (HE.out m))
              have hyl2 : (ys.length : Int) ≤ (b + 1 - r.lo) * 2200 := by
                have : (b + 1 - r.lo) * 2200 = (b - r.lo) * 2200 + 2200 := by omega
                omega
              clear hM
              go_wp2
              exact ⟨⟨b + 1, ys, by omega, by omega, by go_num, hown, HR.out, hyl2, hx, hbx⟩, by simp [intOf]; omega⟩
    · have hbe : b = r.hi + 1 := by omega
      have x1 : decide (b ≤ r.hi) = false := by simpa using hbl
      have hI := IntsAt.of_owns hown
      have hm := hmem.out
      rw [hbe] at hm
      have HFIN : Hid (OwnRes (houseR r free (r.hi + 1) house) w (.returned u7) wr) := Lib.hid ⟨_, xs, rfl, hx, hI, hm⟩
      clear hbe hI hm
      go_wp2
      go_ret
      exact HFIN.out
end Go.Proofs.YtpheidlocijdkaaGreatDoor
