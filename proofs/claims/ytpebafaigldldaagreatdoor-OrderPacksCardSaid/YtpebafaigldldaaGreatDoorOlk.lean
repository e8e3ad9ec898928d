/- Packs that are taken, in plain Lean. -/
import Derived.Test.YtpebafaigldldaaGreatDoorOkl
namespace Go.Proofs.YtpebafaigldldaaGreatDoor
open Go.RowKit
/-! ### Packs that are taken -/
def badTake (n : Int) : Bool := !inB n 0 600
def okTake (ks : List (Int × Int)) (c : List Int) : Bool := decide (c.length ≤ ks.length) && !(c.any badTake)
theorem holds_take : ∀ {ks : List (Int × Int)} {c : List Int} {i : Nat} {k : Int × Int} {n : Int}, ks[i]? = some k → c[i]? = some n → holdsOf ks (c.take (i + 1)) = holdsOf ks (c.take i) + n * k.1 ∧ priceOf ks (c.take (i + 1)) = priceOf ks (c.take i) + n * k.2
 | [], _, _, _, _, h, _ => by simp at h
 | _ :: _, [], _, _, _, _, h => by simp at h
 | q :: ks, m :: c, 0, k, n, h1, h2 => by
  simp at h1 h2; subst h1 h2
  simp [holdsOf, priceOf]
 | q :: ks, m :: c, i + 1, k, n, h1, h2 => by
  have h := holds_take (i := i) (by simpa using h1) (by simpa using h2)
  rw [List.take_succ_cons, List.take_succ_cons]
  simp only [holdsOf, priceOf]
  omega
theorem sum_takeK {c : List Int} {i : Nat} {n : Int} (h : c[i]? = some n) : (c.take (i + 1)).sum = (c.take i).sum + n := by
 rw [List.take_add_one, h, List.sum_append]; simp
theorem take_bd : ∀ {c : List Int} {k : Nat}, (∀ j, j < k → ∃ n, c[j]? = some n ∧ inB n 0 600 = true) → 0 ≤ (c.take k).sum ∧ (c.take k).sum ≤ 600 * k
 | c, 0, _ => by simp
 | c, k + 1, h => by
  obtain ⟨n, hn, hb⟩ := h k (by omega)
  have := take_bd (c := c) (k := k) fun j hj => h j (by omega)
  have := inB_iff.1 hb
  rw [sum_takeK hn]; omega
theorem mul_bd {n p : Int} {B : Int} (h0 : 0 ≤ n) (h1 : n ≤ 600) (p0 : 0 ≤ p) (p1 : p ≤ B) : 0 ≤ n * p ∧ n * p ≤ 600 * B := by
 refine ⟨Int.mul_nonneg h0 p0, ?_⟩
 calc n * p ≤ 600 * p := Int.mul_le_mul_of_nonneg_right h1 p0
  _ ≤ 600 * B := Int.mul_le_mul_of_nonneg_left p1 (by omega)
theorem holds_bd {ks : List (Int × Int)} (hK : PacksB ks) : ∀ {c : List Int} {k : Nat}, k ≤ ks.length → (∀ j, j < k → ∃ n, c[j]? = some n ∧ inB n 0 600 = true) → (0 ≤ holdsOf ks (c.take k) ∧ holdsOf ks (c.take k) ≤ 86400 * k) ∧ (0 ≤ priceOf ks (c.take k) ∧ priceOf ks (c.take k) ≤ 600000 * k)
 | c, 0, _, _ => by cases ks <;> simp [holdsOf, priceOf]
 | c, k + 1, hk, h => by
  obtain ⟨n, hn, hb⟩ := h k (by omega)
  have ih := holds_bd hK (c := c) (k := k) (by omega) fun j hj => h j (by omega)
  have hb := inB_iff.1 hb
  obtain ⟨q, hq⟩ : ∃ q, ks[k]? = some q := ⟨_, List.getElem?_eq_getElem (by omega)⟩
  have ha := hK.all q (List.mem_of_getElem? hq)
  obtain ⟨e1, e2⟩ := holds_take hq hn
  have m1 := mul_bd (B := 144) hb.1 hb.2 (by omega : 0 ≤ q.1) (by omega)
  have m2 := mul_bd (B := 1000) hb.1 hb.2 (by omega : 0 ≤ q.2) (by omega)
  rw [e1, e2]
  omega
theorem ok_taken {ks : List (Int × Int)} {c : List Int} (h : okTake ks c = true) (hl : c.length = ks.length) : Taken ks c := by
 unfold okTake at h
 rw [Bool.and_eq_true, Bool.not_eq_true', List.any_eq_false] at h
 refine ⟨hl, fun x hx => ?_⟩
 have := h.2 x hx
 unfold badTake at this
 simp [inB] at this
 omega
theorem taken_ok {ks : List (Int × Int)} {n : Nat} {r : Pk} (h : PkOk ks n r) (hn : n ≤ 600) : okTake ks r.1 = true := by
 unfold okTake
 rw [Bool.and_eq_true, Bool.not_eq_true', List.any_eq_false]
 refine ⟨by have := h.tak.len; simp; omega, fun x hx => ?_⟩
 have h1 := h.tak.pos x hx
 have h2 := le_sum' h.tak.pos hx
 have h3 := h.many
 unfold badTake
 simp [inB]
 omega
/-- What the law asks of better packs. -/
def betterPk (a b : List Int × Int) (m n : Int) : Bool := if a.2 = b.2 then (if m = n then decide (cmpL a.1 b.1 < 0) else decide (m < n)) else decide (a.2 < b.2)
theorem better_no {ks : List (Int × Int)} (hK : PacksB ks) {n : Nat} {c : List Int} (h : Taken ks c) (hh : (n : Int) ≤ holdsOf ks c) : betterPk (c, priceOf ks c) (pkAt ks n) c.sum (pkAt ks n).1.sum = false := by
 have h1 := cmpPk_le.1 (pk_best hK n c h hh)
 simp only at h1
 unfold betterPk
 simp only
 split
 ·split
  ·have h2 := cmpL_flip c (pkAt ks n).1
   simp; omega
  ·simp; omega
 ·simp; omega
end Go.Proofs.YtpebafaigldldaaGreatDoor
