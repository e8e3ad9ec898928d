/- Plain laws of packs that known does not need. -/
import Derived.Test.YtpebafaigldldaaGreatDoorOq
namespace Go.Proofs.YtpebafaigldldaaGreatDoor
open Go.RowKit
theorem cmpL_self : ∀ a, cmpL a a = 0
 | [] => rfl
 | x :: a => by unfold cmpL; simp [cmpL_self a]
theorem cmpL_eq : ∀ {a b : List Int}, cmpL a b = 0 → a = b
 | [], [], _ => rfl
 | [], _ :: _, h => by simp [cmpL] at h
 | _ :: _, [], h => by simp [cmpL] at h
 | x :: a, y :: b, h => by
  unfold cmpL at h
  by_cases h1 : x < y
  ·rw [if_pos h1] at h; omega
  ·by_cases h2 : y < x
   ·rw [if_neg h1, if_pos h2] at h; omega
   ·rw [if_neg h1, if_neg h2] at h
    rw [cmpL_eq h, show x = y by omega]
theorem cmpL_set : ∀ {a b : List Int} {i : Nat}, cmpL (a.set i (a.getD i 0 + 1)) (b.set i (b.getD i 0 + 1)) = cmpL a b
 | [], [], i => by simp
 | [], y :: b, i => by cases i <;> simp [cmpL]
 | x :: a, [], i => by cases i <;> simp [cmpL]
 | x :: a, y :: b, 0 => by
  simp only [List.set_cons_zero, List.getD_cons_zero, cmpL]
  by_cases h1 : x < y
  ·rw [if_pos (by omega), if_pos h1]
  ·rw [if_neg (by omega), if_neg h1]
   by_cases h2 : y < x
   ·rw [if_pos (by omega), if_pos h2]
   ·rw [if_neg (by omega), if_neg h2]
 | x :: a, y :: b, i + 1 => by
  simp only [List.set_cons_succ, List.getD_cons_succ, cmpL]
  rw [cmpL_set (a := a) (b := b) (i := i)]
theorem cmpPk_add {i : Nat} {p : Int} {a b : Pk} (ha : i < a.1.length) (hb : i < b.1.length) : cmpPk (addPk i p a) (addPk i p b) = cmpPk a b := by
 unfold cmpPk addPk
 simp only [sum_set ha, sum_set hb, cmpL_set]
 by_cases h1 : a.2 < b.2
 ·rw [if_pos (by omega), if_pos h1]
 ·rw [if_neg (by omega), if_neg h1]
  by_cases h2 : b.2 < a.2
  ·rw [if_pos (by omega), if_pos h2]
  ·rw [if_neg (by omega), if_neg h2]
   by_cases h3 : a.1.sum < b.1.sum
   ·rw [if_pos (by omega), if_pos h3]
   ·rw [if_neg (by omega), if_neg h3]
    by_cases h4 : b.1.sum < a.1.sum
    ·rw [if_pos (by omega), if_pos h4]
    ·rw [if_neg (by omega), if_neg h4]
theorem all_zero : ∀ {c : List Int}, (∀ x, x ∈ c → 0 ≤ x) → c.sum = 0 → ∀ x, x ∈ c → x = 0
 | [], _, _ => by simp
 | y :: c, h, hs => by
  have h1 := sum_nonneg' (c := c) (fun y hy => h y (by simp [hy]))
  have h2 := h y (by simp)
  simp only [List.sum_cons] at hs
  intro x hx
  rcases List.mem_cons.1 hx with rfl | hx
  ·omega
  ·exact all_zero (fun y hy => h y (by simp [hy])) (by omega) x hx
theorem set_back {c : List Int} {i : Nat} (h : i < c.length) : (c.set i (c.getD i 0 + -1)).set i ((c.set i (c.getD i 0 + -1)).getD i 0 + 1) = c := by
 rw [List.set_set]
 apply List.ext_getElem?
 intro j
 by_cases e : i = j
 ·subst e
  rw [List.getElem?_set_self h, List.getD_eq_getElem?_getD, List.getElem?_set_self h, List.getD_eq_getElem?_getD, List.getElem?_eq_getElem h]; simp; omega
 ·rw [List.getElem?_set_ne e]
/-- No packs that hold enough are better. -/
theorem pk_best {ks : List (Int × Int)} (hK : PacksB ks) : ∀ (n : Nat) (c : List Int), Taken ks c → (n : Int) ≤ holdsOf ks c → cmpPk (pkAt ks n) (c, priceOf ks c) ≤ 0 := by
 intro n
 induction n using Nat.strongRecOn with
 | ind n ih =>
  intro c hc hh
  match n with
  | 0 =>
   rw [pkAt_zero, cmpPk_le]
   have hp := (holds_nonneg (fun k hk => by have := hK.all k hk; omega) hc.pos : 0 ≤ holdsOf ks c ∧ 0 ≤ priceOf ks c).2
   have hs := sum_nonneg' hc.pos
   have hz : (zeroPk ks).1.sum = 0 := by unfold zeroPk; simp
   have hz2 : (zeroPk ks).2 = 0 := rfl
   simp only [hz, hz2]
   by_cases h1 : 0 < priceOf ks c
   ·exact .inl h1
   ·refine .inr ⟨by omega, ?_⟩
    by_cases h2 : 0 < c.sum
    ·exact .inl h2
    ·refine .inr ⟨by omega, ?_⟩
     have : c = (zeroPk ks).1 := by
      unfold zeroPk
      exact List.eq_replicate_iff.2 ⟨hc.len, all_zero hc.pos (by omega)⟩
     rw [← this, cmpL_self]; omega
  | n + 1 =>
   obtain ⟨i, hi, hpos⟩ : ∃ i, i < c.length ∧ 0 < c.getD i 0 := by
    have hne : ¬ (∀ x, x ∈ c → x = 0) := fun h0 => by have := (holds_zero (ks := ks) h0).1; omega
    simp only [Classical.not_forall] at hne
    obtain ⟨x, hx, hx0⟩ := hne
    obtain ⟨i, hi⟩ := List.getElem?_of_mem hx
    have hil := (List.getElem?_eq_some_iff.1 hi).1
    refine ⟨i, hil, ?_⟩
    rw [List.getD_eq_getElem?_getD, hi]
    have := hc.pos x hx
    simp; omega
   have hik : i < ks.length := by rw [← hc.len]; exact hi
   have hk : ks[i]? = some ks[i] := by simp [hik]
   generalize ks[i] = k at hk
   have hkb := hK.all k (List.mem_of_getElem? hk)
   have hs := holds_set (cs := c) (-1 : Int) hk hc.len.symm
   have hc' : Taken ks (c.set i (c.getD i 0 + -1)) := ⟨by simp [hc.len], fun x hx => by
    rcases set_mem hx with rfl | hx
    ·omega
    ·exact hc.pos x hx⟩
   have h1 := ih (n + 1 - k.1.toNat) (by omega) _ hc' (by
    rcases Nat.lt_or_ge (n + 1) k.1.toNat with h | h
    ·have := (holds_nonneg (fun k hk => by have := hK.all k hk; omega) hc'.pos : 0 ≤ holdsOf ks _ ∧ 0 ≤ priceOf ks _).1; omega
    ·rw [hs.1]; omega)
   have hr := pk_ok hK (n + 1 - k.1.toNat)
   have h2 : cmpPk (addPk i k.2 (pkAt ks (n + 1 - k.1.toNat))) (addPk i k.2 (c.set i (c.getD i 0 + -1), priceOf ks (c.set i (c.getD i 0 + -1)))) ≤ 0 := by
    rw [cmpPk_add (by rw [hr.tak.len]; exact hik) (by simpa using hi)]; exact h1
   have h3 : addPk i k.2 (c.set i (c.getD i 0 + -1), priceOf ks (c.set i (c.getD i 0 + -1))) = (c, priceOf ks c) := by
    unfold addPk
    simp only [Prod.mk.injEq]
    exact ⟨set_back hi, by rw [hs.2]; omega⟩
   rw [h3] at h2
   obtain ⟨x, hx, _, hall⟩ := best_of ltPk_order (l := candFrom (fun h => pkAt ks (n + 1 - h.toNat)) 0 ks) (fun e => by
    have := pkAt_succ hK n; rw [e] at this; simp [bestOf] at this)
   rw [pkAt_succ hK n] at hx
   have hx' : pkAt ks (n + 1) = x := by simpa using hx
   have h4 := hall _ (List.mem_of_getElem? (cand_get (fun h => pkAt ks (n + 1 - h.toNat)) ks 0 i k hk))
   rw [ltPk_false, ← hx', Nat.zero_add] at h4
   exact cmpPk_trans h4 h2
theorem pk_more {ks : List (Int × Int)} (hK : PacksB ks) (n : Nat) : (pkAt ks n).2 ≤ (pkAt ks (n + 1)).2 := by
 have h := pk_ok hK (n + 1)
 have := cmpPk_le.1 (pk_best hK n (pkAt ks (n + 1)).1 h.tak (by have := h.holds; omega))
 rw [← h.price] at this
 simp only at this; omega
end Go.Proofs.YtpebafaigldldaaGreatDoor
