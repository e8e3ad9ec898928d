/- The specification's way to buy, in plain Lean. -/
import Derived.Test.YtpebafaigldldaaGreatDoorOs
namespace Go.Proofs.YtpebafaigldldaaGreatDoor
open Go.RowKit
/-! ### The specification's way to buy: the cheapest pieces, one seller after another -/
def candB (S : List Int) (set : Nat) (c : List Int) (i : Nat) : Bool := set.testBit i && (c.getD i 0 == 0) && decide (0 < S.getD i 0)
def pickTo (P : List Int) (cand : Nat → Bool) : Nat → Option Nat
 | 0 => none
 | k + 1 => match pickTo P cand k with
  | none => if cand k then some k else none
  | some a => if cand k && decide (P.getD k 0 ≤ P.getD a 0) then some k else some a
def PickP (P : List Int) (cand : Nat → Bool) (k : Nat) : Option Nat → Prop
 | none => ∀ i, i < k → cand i = false
 | some a => a < k ∧ cand a = true ∧ ∀ i, i < k → cand i = true → i = a ∨ sooner P a i
theorem pick_spec (P : List Int) (cand : Nat → Bool) : ∀ k, PickP P cand k (pickTo P cand k)
 | 0 => fun i h => by omega
 | k + 1 => by
  have ih := pick_spec P cand k
  unfold pickTo
  cases h : pickTo P cand k with
  | none =>
   rw [h] at ih
   simp only
   by_cases hk : cand k = true
   ·rw [if_pos hk]
    refine ⟨by omega, hk, fun i hi hc => ?_⟩
    by_cases e : i = k
    ·exact .inl e
    ·rw [ih i (by omega)] at hc; cases hc
   ·rw [if_neg hk]
    intro i hi
    by_cases e : i = k
    ·subst e; simpa using hk
    ·exact ih i (by omega)
  | some a =>
   rw [h] at ih
   obtain ⟨h1, h2, h3⟩ := ih
   simp only
   by_cases hk : (cand k && decide (P.getD k 0 ≤ P.getD a 0)) = true
   ·rw [if_pos hk]
    rw [Bool.and_eq_true, decide_eq_true_eq] at hk
    refine ⟨by omega, hk.1, fun i hi hc => ?_⟩
    by_cases e : i = k
    ·exact .inl e
    ·right
     unfold sooner
     rcases h3 i (by omega) hc with r | r
     ·subst r; omega
     ·unfold sooner at r; omega
   ·rw [if_neg hk]
    refine ⟨by omega, h2, fun i hi hc => ?_⟩
    by_cases e : i = k
    ·subst e
     rw [hc, Bool.true_and, decide_eq_true_eq] at hk
     right; unfold sooner; omega
    ·exact h3 i (by omega) hc
theorem pick_first {P : List Int} {cand : Nat → Bool} {n : Nat} : ∀ {o : List Nat}, o.Pairwise (sooner P) → (∀ i, i ∈ o → i < n) → (∀ i, i < n → cand i = true → i ∈ o) → pickTo P cand n = o.find? cand := fun {o} ho hm hc => by
 have h := pick_spec P cand n
 cases hp : pickTo P cand n with
 | none =>
  rw [hp] at h
  exact (List.find?_eq_none.2 fun x hx => by rw [h x (hm x hx)]; simp).symm
 | some a =>
  rw [hp] at h
  obtain ⟨h1, h2, h3⟩ := h
  have ha := hc a h1 h2
  clear hp hc
  induction o with
  | nil => cases ha
  | cons x o ih =>
   rw [List.find?_cons]
   cases hx : cand x with
   | true =>
    simp only
    rcases h3 x (hm x (by simp)) hx with r | r
    ·rw [r]
    ·rcases List.mem_cons.1 ha with e | e
     ·rw [e]
     ·have := (List.pairwise_cons.1 ho).1 a e
      unfold sooner at this r; omega
   | false =>
    simp only
    refine ih (List.pairwise_cons.1 ho).2 (fun i hi => hm i (by simp [hi])) ?_
    rcases List.mem_cons.1 ha with e | e
    ·subst e; rw [hx] at h2; cases h2
    ·exact e
theorem set_zero {c : List Int} {i : Nat} (h : c.getD i 0 = 0) : c.set i 0 = c := by
 by_cases hi : i < c.length
 ·rw [List.getD_eq_getElem?_getD, List.getElem?_eq_getElem hi] at h
  simp at h
  rw [← h, List.set_getElem_self]
 ·exact List.set_eq_of_length_le (by omega)
theorem greedy_skip {S : List Int} : ∀ {mid o : List Nat} {left : Int} {c : List Int}, 0 ≤ left → (∀ i, i ∈ mid → c.getD i 0 = 0 ∧ S.getD i 0 = 0) → greedyL S (mid ++ o) left c = greedyL S o left c
 | [], _, _, _, _, _ => rfl
 | i :: mid, o, left, c, h0, h => by
  obtain ⟨h1, h2⟩ := h i (by simp)
  show greedyL S (mid ++ o) (left - min left (S.getD i 0)) (c.set i (min left (S.getD i 0))) = _
  rw [h2, show min left 0 = 0 by omega, set_zero h1, Int.sub_zero]
  exact greedy_skip (mid := mid) h0 (fun j hj => h j (List.mem_cons_of_mem _ hj))
theorem greedy_end {S : List Int} (hS : ∀ i, 0 ≤ S.getD i 0) : ∀ {o : List Nat} {c : List Int}, (∀ i, i ∈ o → c.getD i 0 = 0) → greedyL S o 0 c = (c, 0)
 | [], _, _ => rfl
 | i :: o, c, h => by
  unfold greedyL
  have := hS i
  rw [show min 0 (S.getD i 0) = 0 by omega, set_zero (h i (by simp)), Int.sub_zero]
  exact greedy_end hS fun j hj => h j (by simp [hj])
/-- Where the specification stands in one of the goods: what is still to come does what the program does. -/
def SelP (S : List Int) (set : Nat) (o : List Nat) (F : List Int × Int) (left : Int) (c : List Int) : Prop :=
 ∃ pre o', o = pre ++ o' ∧ (∀ i, i ∈ pre → candB S set c i = false) ∧ (∀ i, i ∈ o' → c.getD i 0 = 0) ∧ greedyL S o' left c = F
theorem find_split {α : Type} {p : α → Bool} : ∀ {l : List α} {a : α}, l.find? p = some a → ∃ m t, l = m ++ a :: t ∧ (∀ x, x ∈ m → p x = false) ∧ p a = true
 | [], _, h => by cases h
 | x :: l, a, h => by
  rw [List.find?_cons] at h
  cases hx : p x with
  | true => rw [hx] at h; simp at h; subst h; exact ⟨[], l, rfl, by simp, hx⟩
  | false =>
   rw [hx] at h
   obtain ⟨m, t, rfl, h1, h2⟩ := find_split h
   exact ⟨x :: m, t, rfl, fun y hy => by
    rcases List.mem_cons.1 hy with e | e
    ·rw [e]; exact hx
    ·exact h1 y e, h2⟩
theorem sel_start {P S : List Int} {n set : Nat} (left : Int) : SelP S set (orderL P n set) (greedyL S (orderL P n set) left (List.replicate n 0)) left (List.replicate n 0) :=
 ⟨[], _, rfl, (fun i h => by cases h), fun i _ => rep_get' n i, rfl⟩
theorem sel_none {P S : List Int} {n set : Nat} (hS : ∀ i, 0 ≤ S.getD i 0) {F : List Int × Int} {left : Int} {c : List Int} (h0 : 0 < left) (h : SelP S set (orderL P n set) F left c) (hp : pickTo P (candB S set c) n = none) : F = (c, left) := by
 obtain ⟨pre, o', ho, _, h2, rfl⟩ := h
 obtain ⟨_, _, hm⟩ := order_spec P n set
 have hn := pick_spec P (candB S set c) n
 rw [hp] at hn
 have := greedy_skip (S := S) (mid := o') (o := []) (left := left) (c := c) (by omega) fun i hi => ⟨h2 i hi, by
  have hi' : i ∈ orderL P n set := by rw [ho]; simp [hi]
  obtain ⟨b1, b2⟩ := (hm i).1 hi'
  have h3 := hn i b1
  unfold candB at h3
  rw [b2, h2 i hi] at h3
  have := hS i
  simp at h3
  have h4 : S.getD i 0 ≤ 0 := by rw [List.getD_eq_getElem?_getD]; omega
  omega⟩
 rw [List.append_nil] at this
 rw [this]; rfl
theorem sel_some {P S : List Int} {n set : Nat} (hS : ∀ i, 0 ≤ S.getD i 0) {F : List Int × Int} {left : Int} {c : List Int} (hc : c.length = n) (h0 : 0 < left) (h : SelP S set (orderL P n set) F left c) {i : Nat} (hp : pickTo P (candB S set c) n = some i) :
  i < n ∧ c.getD i 0 = 0 ∧ 0 < S.getD i 0 ∧ SelP S set (orderL P n set) F (left - min left (S.getD i 0)) (c.set i (min left (S.getD i 0))) := by
 obtain ⟨pre, o', ho, h1, h2, rfl⟩ := h
 obtain ⟨hd, hs, hm⟩ := order_spec P n set
 have hf := pick_first (cand := candB S set c) hs (fun i hi => ((hm i).1 hi).1) (fun i hi hcd => (hm i).2 ⟨hi, by
  unfold candB at hcd
  rw [Bool.and_eq_true, Bool.and_eq_true] at hcd
  exact hcd.1.1⟩)
 rw [hp, ho, List.find?_append, List.find?_eq_none.2 (fun x hx => by rw [h1 x hx]; simp), Option.none_or] at hf
 obtain ⟨m, t, rfl, h3, h4⟩ := find_split hf.symm
 have hin : i < n := ((hm i).1 (by rw [ho]; simp)).1
 have h5 := h4
 unfold candB at h5
 rw [Bool.and_eq_true, Bool.and_eq_true, beq_iff_eq, decide_eq_true_eq] at h5
 refine ⟨hin, h5.1.2, h5.2, pre ++ (m ++ [i]), t, by rw [ho]; simp, fun j hj => ?_, fun j hj => ?_, ?_⟩
 ·rw [ho] at hd
  have hj' : j ∈ pre ∨ j ∈ m ∨ j = i := by simpa using hj
  by_cases e : j = i
  ·subst e
   unfold candB
   rw [getD_set (by omega), if_pos rfl]
   have : (min left (S.getD j 0) == 0) = false := beq_eq_false_iff_ne.2 (by omega)
   rw [this]; simp
  ·have e1 : candB S set (c.set i (min left (S.getD i 0))) j = candB S set c j := by
    unfold candB
    rw [getD_set (by omega), if_neg (fun h => e h.symm)]
   rw [e1]
   rcases hj' with r | r | r
   ·exact h1 j r
   ·exact h3 j r
   ·exact absurd r e
 ·rw [ho] at hd
  have hne : j ≠ i := fun e => by
   subst e
   have h6 := (List.nodup_append.1 hd).2.1
   have h7 := (List.nodup_append.1 h6).2.1
   exact (List.nodup_cons.1 h7).1 hj
  rw [getD_set (by omega), if_neg (fun h => hne h.symm)]
  exact h2 j (by simp [hj])
 ·rw [greedy_skip (by omega) (fun j hj => ⟨h2 j (by simp [hj]), by
   have hj' : j ∈ orderL P n set := by rw [ho]; simp [hj]
   have b2 := ((hm j).1 hj').2
   have h6 := h3 j hj
   unfold candB at h6
   rw [b2, h2 j (by simp [hj])] at h6
   simp at h6
   have h7 : S.getD j 0 ≤ 0 := by rw [List.getD_eq_getElem?_getD]; omega
   have h8 := hS j
   omega⟩)]
  rfl
theorem best_push {α : Type} (lt : α → α → Bool) : ∀ (l : List α) (y : α), bestOf lt (l ++ [y]) = some (match bestOf lt l with | none => y | some x => if lt y x then y else x)
 | [], y => rfl
 | x :: l, y => by
  show some ((l ++ [y]).foldl (fun out y => if lt y out then y else out) x) = _
  rw [List.foldl_append]; rfl
end Go.Proofs.YtpebafaigldldaaGreatDoor
