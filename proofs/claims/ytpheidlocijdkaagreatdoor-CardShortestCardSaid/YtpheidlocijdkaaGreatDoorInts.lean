/- Parts of a slice of ints: what reads as the first of them, and as the rest. -/
import Derived.Test.YtpheidlocijdkaaGreatDoorRoads
namespace Go.Proofs.YtpheidlocijdkaaGreatDoor
open Go.RowKit

theorem ints_prefix {w : World} {a : Option Addr} {c j : Nat} {l : List Int} (h : IntsAt w (.slice a l.length c) l) (hj : j ≤ l.length) : IntsAt w (.slice a j c) (l.take j) := by
  obtain ⟨a', c', he, h1, h2, h0, h3⟩ := h
  cases he
  have hlen : (l.take j).length = j := by simp [hj]
  refine ⟨a, c, by rw [hlen], by rw [hlen]; omega, h2, h0, fun i u hu => h3 i u ?_⟩
  rw [List.getElem?_map] at hu ⊢
  rw [List.getElem?_take] at hu
  split at hu
  · exact hu
  · cases hu
theorem ints_suffix {w : World} {b o c j : Nat} {l : List Int} (h : IntsAt w (.slice (some ⟨b, o, none⟩) l.length c) l) (hj : j ≤ l.length) : IntsAt w (.slice (some ⟨b, o + j, none⟩) (l.length - j) (c - j)) (l.drop j) := by
  obtain ⟨a', c', he, h1, h2, h0, h3⟩ := h
  cases he
  have hlen : (l.drop j).length = l.length - j := by simp
  refine ⟨_, _, by rw [hlen], by rw [hlen]; omega, by omega, (fun h => by cases h), fun i u hu => ?_⟩
  rw [List.getElem?_map, List.getElem?_drop, ← List.getElem?_map] at hu
  obtain ⟨b', o', e, hc⟩ := h3 (j + i) u hu
  cases e
  exact ⟨b, o + j, rfl, by rw [Nat.add_assoc]; exact hc⟩
theorem suffix_row {W : World} {b o c j : Nat} {l : List Int} (A : Option Addr) (hA : A = if c = j + 1 then some ⟨b, o, none⟩ else some ⟨b, o + (j + 1), none⟩) (h : IntsAt W (.slice (some ⟨b, o, none⟩) l.length c) l) (hj : j + 1 ≤ l.length) :
    RowAt W (.slice A (l.length - (j + 1)) (c - (j + 1))) (l.length - (j + 1)) ((l.drop (j + 1)).map (.int .i64)) := by
  by_cases hc : c = j + 1
  · rw [if_pos hc] at hA
    subst hA
    obtain ⟨a', c', he, h1, h2, _, _⟩ := h
    cases he
    have hd : l.drop (j + 1) = [] := List.drop_eq_nil_of_le (by omega)
    exact ⟨_, _, rfl, by omega, by omega, (fun h => by cases h), fun i u hu => by rw [hd] at hu; simp at hu⟩
  · rw [if_neg hc] at hA
    subst hA
    have h2 := ints_suffix h hj
    unfold IntsAt at h2
    rw [List.length_drop] at h2
    exact h2
end Go.Proofs.YtpheidlocijdkaaGreatDoor
