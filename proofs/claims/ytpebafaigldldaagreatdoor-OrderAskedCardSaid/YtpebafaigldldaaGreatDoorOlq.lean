/- What is left of the truths, answer by answer, in plain Lean. -/
import Derived.Test.YtpebafaigldldaaGreatDoorOql
namespace Go.Proofs.YtpebafaigldldaaGreatDoor
open Go.RowKit
/-! ### What is left of the truths, answer by answer -/
theorem perms_120 {b : Book} (hB : BookB b) : (permsB b).length ≤ 120 := by
 have h2 := hB.g2; have h5 := hB.g5
 unfold permsB
 obtain h | h | h | h : b.goods.length = 2 ∨ b.goods.length = 3 ∨ b.goods.length = 4 ∨ b.goods.length = 5 := by omega
 all_goals rw [h]; decide +kernel
theorem sp_120 {b : Book} (hB : BookB b) (e : Nat) : (spB b e).length ≤ 120 := Nat.le_trans (List.length_filter_le _ _) (perms_120 hB)
theorem back_120 {b : Book} (hB : BookB b) : ∀ (d e : Nat) (l : List Int), backB b e d l ≤ 120 ^ d
 | 0, _, _ => by simp [backB]
 | d + 1, e, l => by
  unfold backB
  refine Int.le_trans (sum_le (g := fun _ => 120 ^ d) fun x _ => back_120 hB d (e + 1) x) ?_
  rw [sum_const, Int.pow_succ, Int.mul_comm]
  refine Int.mul_le_mul_of_nonneg_left ?_ (Int.pow_nonneg (by omega))
  have := Nat.le_trans (List.length_filter_le (adjB b l) (spB b (e + 1))) (sp_120 hB (e + 1)); omega
theorem truths_max {b : Book} (hB : BookB b) : 0 ≤ truthsB b ∧ truthsB b ≤ 1728000 := by
 have h1 := hB.e1; have h3 := hB.e3
 refine ⟨sum_nonneg fun l _ => many_nonneg b 0 l, ?_⟩
 have hp : ∀ l, manyB b 0 l ≤ 14400 := fun l => by
  unfold manyB afterB
  have h := back_120 hB (b.editions.toNat - 1 - 0) 0 l
  have ha : aheadB b 0 l = 1 := rfl
  rw [ha, Int.one_mul]
  obtain h9 | h9 | h9 : b.editions.toNat - 1 - 0 = 0 ∨ b.editions.toNat - 1 - 0 = 1 ∨ b.editions.toNat - 1 - 0 = 2 := by omega
  all_goals rw [h9] at h ⊢; simp at h; omega
 unfold truthsB
 refine Int.le_trans (sum_le (g := fun _ => 14400) fun l _ => hp l) ?_
 rw [sum_const]
 have : (pageB b 0).length ≤ 120 := Nat.le_trans (List.length_filter_le _ _) (sp_120 hB 0)
 omega
def leftsTo (b : Book) (e : Nat) (n : Int) (k : Nat) : List Int := ((numsOf b.goods.length).map (leftB b e n)).take k
def mostTo (b : Book) (e : Nat) (n : Int) (k : Nat) : Int := (leftsTo b e n k).foldl max 0
def allTo (b : Book) (e : Nat) (n : Int) (k : Nat) : Int := (leftsTo b e n k).sum
theorem lefts_succ {b : Book} {e : Nat} {n : Int} {k : Nat} (h : k < b.goods.length) : leftsTo b e n (k + 1) = leftsTo b e n k ++ [leftB b e n (k : Int)] := by
 unfold leftsTo
 rw [List.take_add_one, List.getElem?_map, numsOf_get h]; rfl
theorem most_succ {b : Book} {e : Nat} {n : Int} {k : Nat} (h : k < b.goods.length) : mostTo b e n (k + 1) = max (mostTo b e n k) (leftB b e n (k : Int)) := by
 unfold mostTo; rw [lefts_succ h, List.foldl_append]; rfl
theorem all_succ {b : Book} {e : Nat} {n : Int} {k : Nat} (h : k < b.goods.length) : allTo b e n (k + 1) = allTo b e n k + leftB b e n (k : Int) := by
 unfold allTo; rw [lefts_succ h, List.sum_append]; simp
theorem most_all (b : Book) (e : Nat) (n : Int) : mostTo b e n b.goods.length = worstB b e n := by
 unfold mostTo leftsTo
 rw [List.take_of_length_le (by simp [numsOf]), ← worst_fold, List.foldl_map]
theorem all_all {b : Book} {e : Nat} (he : (e : Int) < b.editions) {n : Int} (h0 : 0 ≤ n) (h1 : n < b.goods.length) : allTo b e n b.goods.length = truthsB b := by
 unfold allTo leftsTo
 rw [List.take_of_length_le (by simp [numsOf]), left_all he h0 h1]
theorem most_nonneg (b : Book) (e : Nat) (n : Int) : ∀ k, 0 ≤ mostTo b e n k := fun k => (foldl_max_bd (leftsTo b e n k) 0).1
theorem most_le {b : Book} (hB : BookB b) {e : Nat} (he : (e : Int) < b.editions) (n : Int) : ∀ k, mostTo b e n k ≤ 1728000 := fun k => by
 rcases (foldl_max_bd (leftsTo b e n k) 0).2.2 with h | h
 ·unfold mostTo; rw [h]; omega
 ·obtain ⟨g, _, hg⟩ := List.mem_map.1 (List.mem_of_mem_take h)
  have := left_le he n g
  have := (truths_max hB).2
  unfold mostTo; omega
theorem all_bd {b : Book} (hB : BookB b) {e : Nat} (he : (e : Int) < b.editions) (n : Int) : ∀ k, 0 ≤ allTo b e n k ∧ allTo b e n k ≤ 1728000 * k
 | 0 => by simp [allTo, leftsTo]
 | k + 1 => by
  have ih := all_bd hB he n k
  by_cases h : k < b.goods.length
  ·rw [all_succ h]
   have := left_le he n (k : Int)
   have := left_nonneg b e n (k : Int)
   have := (truths_max hB).2
   omega
  ·have : allTo b e n (k + 1) = allTo b e n k := by
    unfold allTo leftsTo
    rw [List.take_of_length_le (by simp [numsOf]; omega), List.take_of_length_le (by simp [numsOf]; omega)]
   rw [this]; omega
/-- What the law asks of the best question. -/
theorem ask_law {b : Book} (hB : BookB b) {e n : Nat} (he : (e : Int) < b.editions) (hn : n < b.goods.length) :
  ∃ E N : Nat, askB b = ((E : Int), (N : Int), worstB b E N) ∧ (E : Int) < b.editions ∧ N < b.goods.length ∧ worstB b E N ≤ worstB b e n ∧ ((e < E ∨ e = E ∧ n < N) → worstB b E N < worstB b e n) := by
 obtain ⟨E, N, h1, h2, h3, h4⟩ := ask_spec hB
 exact ⟨E, N, h1, h2, h3, (h4 e n he hn).1, (h4 e n he hn).2⟩
end Go.Proofs.YtpebafaigldldaaGreatDoor
