/- Lists compared from their first difference, in plain Lean. -/
import Derived.Test.YtpebafaigldldaaGreatDoorOs
import Derived.Test.YtpebafaigldldaaGreatDoorOkl
namespace Go.Proofs.YtpebafaigldldaaGreatDoor
open Go.RowKit
/-! ### Lists compared from their first difference -/
theorem take_same {α : Type} {a b : List α} {k : Nat} (h : a.take k = b.take k) (hk : a[k]? = b[k]?) : a.take (k + 1) = b.take (k + 1) := by
 rw [List.take_add_one, List.take_add_one, h, hk]
theorem cmpL_diff : ∀ {a b : List Int} {j : Nat} {x y : Int}, a.take j = b.take j → a[j]? = some x → b[j]? = some y → x ≠ y → cmpL a b = if x < y then -1 else 1
 | [], _, j, x, y, _, ha, _, _ => by simp at ha
 | _ :: _, [], j, x, y, _, _, hb, _ => by simp at hb
 | p :: a, q :: b, 0, x, y, _, ha, hb, hn => by
  simp at ha hb; subst ha hb
  unfold cmpL
  split
  ·rfl
  ·rw [if_pos (by omega)]
 | p :: a, q :: b, j + 1, x, y, h, ha, hb, hn => by
  simp at ha hb h
  unfold cmpL
  rw [h.1, if_neg (by omega), if_neg (by omega)]
  exact cmpL_diff h.2 ha hb hn
theorem cmpL_pre : ∀ {a b : List Int} {k : Nat}, a.take k = b.take k → (k = a.length ∨ k = b.length) → k ≤ a.length → k ≤ b.length → (cmpL a b < 0 ↔ a.length < b.length)
 | [], [], k, _, _, _, _ => by simp [cmpL]
 | [], _ :: _, k, _, _, _, _ => by simp [cmpL]
 | _ :: _, [], k, _, _, _, _ => by simp [cmpL]
 | p :: a, q :: b, 0, h, hk, _, _ => by simp at hk
 | p :: a, q :: b, k + 1, h, hk, ka, kb => by
  simp at h hk ka kb
  unfold cmpL
  rw [h.1, if_neg (by omega), if_neg (by omega), cmpL_pre h.2 hk ka kb]; simp
theorem cmpLL_diff : ∀ {a b : List (List Int)} {k : Nat} {r s : List Int}, a.take k = b.take k → a[k]? = some r → b[k]? = some s → cmpL r s ≠ 0 → cmpLL a b = cmpL r s
 | [], _, _, _, _, _, ha, _, _ => by simp at ha
 | _ :: _, [], _, _, _, _, _, hb, _ => by simp at hb
 | p :: a, q :: b, 0, r, s, _, ha, hb, hn => by
  simp at ha hb; subst ha hb
  unfold cmpLL; rw [if_neg hn]
 | p :: a, q :: b, k + 1, r, s, h, ha, hb, hn => by
  simp at ha hb h
  unfold cmpLL
  rw [h.1, if_pos (cmpL_self q)]
  exact cmpLL_diff h.2 ha hb hn
theorem cmpLL_self : ∀ a, cmpLL a a = 0
 | [] => rfl
 | x :: a => by unfold cmpLL; rw [cmpL_self, if_pos rfl]; exact cmpLL_self a
theorem sum_pos_iff : ∀ {r : List Int}, (∀ x, x ∈ r → 0 ≤ x) → (0 < r.sum ↔ ∃ x, x ∈ r ∧ 0 < x)
 | [], _ => by simp
 | x :: r, h => by
  have h0 := h x (by simp)
  have hr := sum_nonneg' (c := r) (fun y hy => h y (by simp [hy]))
  have ih := sum_pos_iff (r := r) (fun y hy => h y (by simp [hy]))
  simp only [List.sum_cons, List.mem_cons]
  constructor
  ·intro hp
   by_cases hx : 0 < x
   ·exact ⟨x, .inl rfl, hx⟩
   ·obtain ⟨y, hy, h1⟩ := ih.1 (by omega); exact ⟨y, .inr hy, h1⟩
  ·rintro ⟨y, rfl | hy, h1⟩
   ·omega
   ·have := ih.2 ⟨y, hy, h1⟩; omega
theorem bought_sum {r : List Int} (h : ∀ x, x ∈ r → 0 ≤ x) : (r.any fun x => decide (0 < x)) = decide (0 < r.sum) := by
 rw [Bool.eq_iff_iff, List.any_eq_true, decide_eq_true_eq, sum_pos_iff h]
 constructor
 ·rintro ⟨x, hx, h⟩; exact ⟨x, hx, by simpa using h⟩
 ·rintro ⟨x, hx, h⟩; exact ⟨x, hx, by simpa using h⟩
def preferB (ls : List Seller) (a b : List (List Int)) : Bool := if costsB ls a = costsB ls b then (if sellersOf a = sellersOf b then decide (cmpLL a b < 0) else decide (sellersOf a < sellersOf b)) else decide (costsB ls a < costsB ls b)
end Go.Proofs.YtpebafaigldldaaGreatDoor
