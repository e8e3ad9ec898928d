/- What is true lies within the bounds: plain Lean for CardTrue, CardNamed. -/
import Derived.Test.YtbeophjdiddomaaGreatDoorRuns
namespace Go.Proofs.YtbeophjdiddomaaGreatDoor
open Go.RowKit

theorem sumT_sumF (r : Round) (x : Truth) : ∀ k : Nat, sumT r x k = sumF (fun i => nOf r (x.full.getD i 0) (x.loose.getD i 0)) 0 k
  | 0 => rfl
  | k + 1 => by
    unfold sumT sumF
    rw [sumT_sumF r x k, Nat.zero_add]
theorem okUp_at {r : Round} {x : Truth} {free : Int} {k n : Nat} (hk : k < n) (h : okUp r x free n = true) : okT r x free k = true := by
  unfold okUp at h
  exact (List.all_eq_true.1 h) k (List.mem_range.2 hk)
theorem fits_own {r : Round} {x : Truth} {free : Int} {j : Nat} (hj : j < r.houses.length) (h : okT r x free j = true) : ownS r free x.button j (nOf r (x.full.getD j 0) (x.loose.getD j 0)) := by
  have hh : r.houses.getD j noHouse = r.houses[j] := by rw [List.getD_eq_getElem?_getD, List.getElem?_eq_getElem hj]; rfl
  unfold okT at h
  rw [hh] at h
  refine ⟨r.houses[j], List.getElem?_eq_getElem hj, (x.full.getD j 0, x.loose.getD j 0), mem_ways_iff.2 ⟨h, ?_⟩, rfl⟩
  rw [Bool.and_eq_true] at h
  have h1 := h.1
  unfold canB at h1
  simp only [Bool.and_eq_true, inB_iff] at h1
  obtain ⟨⟨⟨h2, h3⟩, _⟩, _⟩ := h1
  exact ⟨h2.1, h2.2, h3.1, by show x.loose.getD j 0 < r.per; omega⟩
theorem fits_pick {r : Round} {x : Truth} {free : Int} (h : fitsB r x free = true) : PickR r free x.button (fun i => nOf r (x.full.getD i 0) (x.loose.getD i 0)) (sumT r x r.houses.length) ∧ r.lo ≤ x.button ∧ x.button < r.hi + 1 := by
  unfold fitsB at h
  simp only [Bool.and_eq_true, inB_iff] at h
  obtain ⟨⟨⟨b1, b2⟩, h2⟩, h3, h4⟩ := h
  exact ⟨⟨fun j hj => fits_own hj (okUp_at hj h2), sumT_sumF r x _, by omega, by omega⟩, b1, by omega⟩
theorem fits_button {r : Round} {x : Truth} {free : Int} (hB : RoundB r) (h : fitsB r x free = true) : buttonR r free (r.hi + 1) x.button := by
  obtain ⟨h1, h2, h3⟩ := fits_pick h
  exact (buttonR_iff hB).2 ⟨h2, h3, _, _, h1⟩
theorem fits_agree {r : Round} {x : Truth} {free : Int} (hB : RoundB r) (h : fitsB r x free = true) : agreeB r free = true := (agreeB_iff hB).2 ⟨_, fits_button hB h⟩
theorem fits_house {r : Round} {x : Truth} {free : Int} (hB : RoundB r) (h : fitsB r x free = true) {i : Nat} (hi : i < r.houses.length) :
    (spanOf (houseL r free i)).1 ≤ nOf r (x.full.getD i 0) (x.loose.getD i 0) ∧ nOf r (x.full.getD i 0) (x.loose.getD i 0) ≤ (spanOf (houseL r free i)).2 := by
  obtain ⟨h1, h2, h3⟩ := fits_pick h
  exact (spanOf_ends (houseL_ne hB (fits_agree hB h) hi)).b _ ((mem_houseL hB hi).2 ((houseR_iff hB hi).2 ⟨_, _, _, h2, h3, h1, rfl⟩))
theorem fits_all {r : Round} {x : Truth} {free : Int} (hB : RoundB r) (h : fitsB r x free = true) :
    (spanOf (allL r free)).1 ≤ sumT r x r.houses.length ∧ sumT r x r.houses.length ≤ (spanOf (allL r free)).2 := by
  obtain ⟨h1, h2, h3⟩ := fits_pick h
  exact (spanOf_ends (allL_ne hB (fits_agree hB h))).b _ ((mem_allL hB).2 ((allR_iff hB).2 ⟨_, _, h2, h3, h1⟩))
theorem fits_weight {r : Round} {x : Truth} {free : Int} (hB : RoundB r) (h : fitsB r x free = true) :
    (spanOf (butsL r free)).1 ≤ x.button ∧ x.button ≤ (spanOf (butsL r free)).2 :=
  (spanOf_ends (butsL_ne (fits_agree hB h))).b _ ((mem_butsL hB).2 (fits_button hB h))
/-- Had the house counted right: so it fits, the house free. -/
def rightR (r : Round) (x : Truth) (k : Nat) : Round := { r with houses := r.houses.set k { r.houses.getD k noHouse with full := x.full.getD k 0, loose := x.loose.getD k 0 } }
theorem right_fits {r : Round} {x : Truth} {k : Nat} (h : fitsB (rightR r x k) x (-1) = true) : fitsB r x (k : Int) = true := by
  have hl : (rightR r x k).houses.length = r.houses.length := by simp [rightR]
  have hn : ∀ a b, nOf (rightR r x k) a b = nOf r a b := fun _ _ => rfl
  have hs : ∀ n, sumT (rightR r x k) x n = sumT r x n := by
    intro n
    induction n with
    | zero => rfl
    | succ n ih => unfold sumT; rw [ih, hn]
  unfold fitsB at h ⊢
  rw [hl, hs] at h
  rw [Bool.and_eq_true, Bool.and_eq_true] at h ⊢
  refine ⟨⟨h.1.1, ?_⟩, h.2⟩
  unfold okUp
  rw [List.all_eq_true]
  intro j hj
  have hjl := List.mem_range.1 hj
  have h1 := okUp_at hjl h.1.2
  unfold okT at h1 ⊢
  rw [Bool.and_eq_true] at h1 ⊢
  by_cases hjk : j = k
  · subst hjk
    have hg : (rightR r x j).houses.getD j noHouse = { r.houses.getD j noHouse with full := x.full.getD j 0, loose := x.loose.getD j 0 } := by
      simp [rightR, List.getD_eq_getElem?_getD, List.getElem?_set_self hjl]
    rw [hg] at h1
    exact ⟨h1.1, by simp⟩
  · have hg : (rightR r x k).houses.getD j noHouse = r.houses.getD j noHouse := by
      simp only [rightR, List.getD_eq_getElem?_getD]
      rw [List.getElem?_set_ne (fun e => hjk e.symm)]
    rw [hg] at h1
    refine ⟨h1.1, ?_⟩
    have h2 := h1.2
    have hm : decide ((j : Int) = -1) = false := by simp
    rw [hm, Bool.false_or] at h2
    rw [h2, Bool.or_true]
end Go.Proofs.YtbeophjdiddomaaGreatDoor
