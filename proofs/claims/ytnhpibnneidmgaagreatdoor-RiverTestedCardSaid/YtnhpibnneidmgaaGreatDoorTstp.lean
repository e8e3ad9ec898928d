/- Whoever tests as told, in plain Lean. -/
import Derived.Test.YtnhpibnneidmgaaGreatDoorFitp
namespace Go.Proofs.YtnhpibnneidmgaaGreatDoor
/-! ### The best test -/
def splitB (l : List Nat) (i : Nat) : Bool := !(yesOf l i).isEmpty && !(noOf l i).isEmpty
def splitN (l : List Nat) : Nat := (List.range 4).countP (splitB l)
theorem splitB_iff {l : List Nat} {i : Nat} : splitB l i = true ↔ ¬ (yesOf l i = [] ∨ noOf l i = []) := by
 unfold splitB
 rw [Bool.and_eq_true, Bool.not_eq_true', Bool.not_eq_true', List.isEmpty_eq_false_iff, List.isEmpty_eq_false_iff, not_or]
theorem yesOf_mem {l : List Nat} {i p : Nat} : p ∈ yesOf l i ↔ p ∈ l ∧ p.testBit i = true := by unfold yesOf hasB; rw [List.mem_filter]
theorem noOf_mem {l : List Nat} {i p : Nat} : p ∈ noOf l i ↔ p ∈ l ∧ p.testBit i = false := by unfold noOf hasB; rw [List.mem_filter]; simp
theorem split_at {l : List Nat} {i : Nat} : splitB l i = true ↔ (∃ p, p ∈ l ∧ p.testBit i = true) ∧ ∃ p, p ∈ l ∧ p.testBit i = false := by
 rw [splitB_iff, not_or]
 constructor
 ·rintro ⟨h1, h2⟩
  obtain ⟨p, hp⟩ := List.exists_mem_of_ne_nil _ h1
  obtain ⟨q, hq⟩ := List.exists_mem_of_ne_nil _ h2
  exact ⟨⟨p, yesOf_mem.1 hp⟩, ⟨q, noOf_mem.1 hq⟩⟩
 ·rintro ⟨⟨p, hp⟩, ⟨q, hq⟩⟩
  exact ⟨List.ne_nil_of_mem (yesOf_mem.2 hp), List.ne_nil_of_mem (noOf_mem.2 hq)⟩
theorem countP_less {α : Type} {f g : α → Bool} {l : List α} (h : ∀ x, x ∈ l → g x = true → f x = true) {y : α} (hy : y ∈ l) (h1 : f y = true) (h2 : g y = false) : l.countP g + 1 ≤ l.countP f := by
 induction l with
 | nil => simp at hy
 | cons x l ih =>
  rw [List.countP_cons, List.countP_cons]
  rcases List.mem_cons.1 hy with rfl | hy
  ·have := List.countP_mono_left (l := l) (p := g) (q := f) (fun x hx => h x (List.mem_cons_of_mem _ hx))
   rw [h1, h2]; simp; exact this
  ·have := ih (fun x hx => h x (List.mem_cons_of_mem _ hx)) hy
   have h3 := h x (by simp)
   cases hg : g x
   ·cases hf : f x <;> simp <;> omega
   ·rw [h3 hg]; simp; omega
theorem split_yes {l : List Nat} {i : Nat} (hi : i < 4) (h : splitB l i = true) : splitN (yesOf l i) + 1 ≤ splitN l := by
 refine countP_less (fun j _ hj => ?_) (List.mem_range.2 hi) h ?_
 ·rw [split_at] at hj ⊢
  obtain ⟨⟨p, hp, h1⟩, ⟨q, hq, h2⟩⟩ := hj
  exact ⟨⟨p, (yesOf_mem.1 hp).1, h1⟩, ⟨q, (yesOf_mem.1 hq).1, h2⟩⟩
 ·rw [Bool.eq_false_iff, ne_eq, split_at]
  rintro ⟨_, ⟨q, hq, h2⟩⟩
  rw [(yesOf_mem.1 hq).2] at h2; cases h2
theorem split_no {l : List Nat} {i : Nat} (hi : i < 4) (h : splitB l i = true) : splitN (noOf l i) + 1 ≤ splitN l := by
 refine countP_less (fun j _ hj => ?_) (List.mem_range.2 hi) h ?_
 ·rw [split_at] at hj ⊢
  obtain ⟨⟨p, hp, h1⟩, ⟨q, hq, h2⟩⟩ := hj
  exact ⟨⟨p, (noOf_mem.1 hp).1, h1⟩, ⟨q, (noOf_mem.1 hq).1, h2⟩⟩
 ·rw [Bool.eq_false_iff, ne_eq, split_at]
  rintro ⟨⟨q, hq, h2⟩, _⟩
  rw [(noOf_mem.1 hq).2] at h2; cases h2
def askN1 (least : Int) (l : List Nat) (i : Nat) : Int := 1 + max (neededP least (yesOf l i)) (neededP least (noOf l i))
/-- What is picked among the first k shells. -/
theorem planTo_spec (least : Int) (l : List Nat) : ∀ k, ((∀ i, i < k → splitB l i = false) ∧ planTo least l k = (-1, 0)) ∨ ∃ i : Nat, i < k ∧ splitB l i = true ∧ planTo least l k = ((i : Int), askN1 least l i)
 | 0 => .inl ⟨fun i h => absurd h (Nat.not_lt_zero _), rfl⟩
 | k + 1 => by
  rw [planTo_succ]
  unfold planStep
  by_cases hs : splitB l k = true
  ·rw [if_neg (splitB_iff.1 hs)]
   right
   unfold betterB
   rcases planTo_spec least l k with ⟨h1, h2⟩ | ⟨i, h1, h2, h3⟩
   ·rw [h2, if_pos (by simp)]
    exact ⟨k, by omega, hs, rfl⟩
   ·rw [h3]
    split
    ·exact ⟨k, by omega, hs, rfl⟩
    ·exact ⟨i, by omega, h2, rfl⟩
  ·have hs' : splitB l k = false := by simpa using hs
   have hc : yesOf l k = [] ∨ noOf l k = [] := by
    rw [splitB_iff] at hs
    by_cases c : yesOf l k = [] ∨ noOf l k = []
    ·exact c
    ·exact absurd c hs
   rw [if_pos hc]
   rcases planTo_spec least l k with ⟨h1, h2⟩ | ⟨i, h1, h2, h3⟩
   ·left
    refine ⟨fun i hi => ?_, h2⟩
    by_cases e : i = k
    ·rw [e]; exact hs'
    ·exact h1 i (by omega)
   ·exact .inr ⟨i, by omega, h2, h3⟩
theorem needed_split (least : Int) : ∀ (n : Nat) (l : List Nat), l.length ≤ n → neededP least l ≤ splitN l
 | n, l, hn => by
  unfold neededP
  split
  ·omega
  ·rw [bestP_planTo]
   rcases planTo_spec least l 4 with ⟨h1, h2⟩ | ⟨i, h1, h2, h3⟩
   ·rw [h2]; simp only; omega
   ·rw [h3]
    simp only
    have hy := split_yes h1 h2
    have hno := split_no h1 h2
    have hsp := splitB_iff.1 h2
    rw [not_or] at hsp
    have ly := yes_less hsp.2
    have ln := no_less hsp.1
    cases n with
    | zero => omega
    | succ n =>
     have e1 := needed_split least n (yesOf l i) (by omega)
     have e2 := needed_split least n (noOf l i) (by omega)
     unfold askN1; omega
/-- If it is not known, some shell parts the patterns. -/
theorem unknown_split {least : Int} {l : List Nat} {m : Nat} (hl : ∀ p, p ∈ l → p < 2 ^ m) (h : knownB least l = false) : ∃ i, i < m ∧ splitB l i = true := by
 unfold knownB at h
 rw [Bool.or_eq_false_iff, Bool.not_eq_false', Bool.not_eq_false', List.any_eq_true, List.any_eq_true] at h
 obtain ⟨⟨p, hp, h1⟩, ⟨q, hq, h2⟩⟩ := h
 have hne : p ≠ q := fun e => by subst e; simp only [decide_eq_true_eq] at h1 h2; omega
 have : ∃ i, p.testBit i ≠ q.testBit i := Nat.exists_testBit_ne_of_ne hne
 obtain ⟨i, hi⟩ := this
 have him : i < m := by
  rcases Nat.lt_or_ge i m with h | h
  ·exact h
  ·have z1 := Nat.testBit_lt_two_pow (Nat.lt_of_lt_of_le (hl p hp) (Nat.pow_le_pow_right (by decide) h))
   have z2 := Nat.testBit_lt_two_pow (Nat.lt_of_lt_of_le (hl q hq) (Nat.pow_le_pow_right (by decide) h))
   rw [z1, z2] at hi
   exact absurd rfl hi
 refine ⟨i, him, split_at.2 ?_⟩
 cases hpi : p.testBit i
 ·cases hqi : q.testBit i
  ·rw [hpi, hqi] at hi; exact absurd rfl hi
  ·exact ⟨⟨q, hq, hqi⟩, ⟨p, hp, hpi⟩⟩
 ·cases hqi : q.testBit i
  ·exact ⟨⟨p, hp, hpi⟩, ⟨q, hq, hqi⟩⟩
  ·rw [hpi, hqi] at hi; exact absurd rfl hi
theorem split_lt {l : List Nat} {m : Nat} (hl : ∀ p, p ∈ l → p < 2 ^ m) {i : Nat} (h : splitB l i = true) : i < m := by
 obtain ⟨⟨p, hp, h1⟩, _⟩ := split_at.1 h
 rcases Nat.lt_or_ge i m with h | h
 ·exact h
 ·rw [Nat.testBit_lt_two_pow (Nat.lt_of_lt_of_le (hl p hp) (Nat.pow_le_pow_right (by decide) h))] at h1; cases h1
theorem splitN_le {l : List Nat} {m : Nat} (hl : ∀ p, p ∈ l → p < 2 ^ m) : splitN l ≤ m := by
 have key : ∀ n, (List.range n).countP (splitB l) ≤ m := by
  intro n
  induction n with
  | zero => simp
  | succ n ih =>
   rw [List.range_succ, List.countP_append]
   by_cases h : n < m
   ·have := List.countP_le_length (p := splitB l) (l := List.range n)
    rw [List.length_range] at this
    have h2 := List.countP_le_length (p := splitB l) (l := [n])
    simp only [List.length_singleton] at h2
    omega
   ·have : splitB l n = false := by rw [Bool.eq_false_iff]; intro e; exact h (split_lt hl e)
    simp [this]; exact ih
 exact key 4
/-- The shell to test, if it is not known. -/
theorem best_spec {least : Int} {l : List Nat} {m : Nat} (hm : m ≤ 4) (hl : ∀ p, p ∈ l → p < 2 ^ m) (h : knownB least l = false) :
  ∃ i : Nat, i < m ∧ splitB l i = true ∧ bestP least l = ((i : Int), askN1 least l i) ∧ 1 ≤ askN1 least l i ∧ askN1 least l i ≤ m := by
 rw [bestP_planTo]
 obtain ⟨j, hj, hs⟩ := unknown_split hl h
 rcases planTo_spec least l 4 with ⟨h1, h2⟩ | ⟨i, h1, h2, h3⟩
 ·rw [h1 j (by omega)] at hs; cases hs
 ·refine ⟨i, split_lt hl h2, h2, h3, ?_, ?_⟩
  ·have := neededP_range least (yesOf l i)
   unfold askN1; omega
  ·have e := needed_split least l.length l (Nat.le_refl _)
   have := splitN_le hl
   unfold neededP at e
   rw [h, bestP_planTo, h3] at e
   simp only [Bool.false_eq_true, if_false] at e
   omega
theorem pats_two {b : Book} {s : Sack} (hB : BookB b) (hS : SackB s) : ∀ p, p ∈ patternsOf b s → p < 2 ^ s.shells.length := fun p hp => by
 obtain ⟨x, hx, rfl⟩ := pats_truth hB hS hp
 have := patO_lt b x.org
 rwa [hx.1] at this
theorem pats_is {b : Book} {s : Sack} (hB : BookB b) (hS : SackB s) {t : Nat} {c : Bool} (ht : t < s.shells.length) (h6 : s.tests.length < 6) : patternsOf b (addT s [((t : Int), c)]) = if c then yesOf (patternsOf b s) t else noOf (patternsOf b s) t := by
 rw [pats_test hB hS ht h6]
 cases c
 ·rw [if_neg (by simp)]; unfold noOf; refine List.filter_congr fun p _ => ?_; cases hasB p t <;> rfl
 ·rw [if_pos rfl]; unfold yesOf; refine List.filter_congr fun p _ => ?_; cases hasB p t <;> rfl
/-- After the test fewer are needed. -/
theorem test_less {b : Book} {s : Sack} (hB : BookB b) (hS : SackB s) {least : Int} {t : Nat} {c : Bool} (ht : t < s.shells.length) (h6 : s.tests.length < 6) (h : knownB least (patternsOf b (addT s [((t : Int), c)])) = false) :
  (bestP least (patternsOf b (addT s [((t : Int), c)]))).2 + 1 ≤ askN1 least (patternsOf b s) t := by
 have e : neededP least (patternsOf b (addT s [((t : Int), c)])) = (bestP least (patternsOf b (addT s [((t : Int), c)]))).2 := by unfold neededP; rw [h]; rfl
 rw [← e, pats_is hB hS ht h6]
 unfold askN1
 cases c
 ·simp only [Bool.false_eq_true, if_false]; omega
 ·simp only [if_true]; omega
/-! ### Whoever tests as told -/
def tsack (s : Sack) (ts : List (Int × Bool)) : Sack := ⟨s.shells, ts⟩
structure TInv (b : Book) (s : Sack) (x : Truth) (m : Int) (ts : List (Int × Bool)) (k : Nat) : Prop where
 sk : isSackB (tsack s ts) = true
 fit : FitsP b (tsack s ts) x
 len : ts.length = s.tests.length + k
theorem TInv.zero {b : Book} {s : Sack} {x : Truth} {m : Int} (h1 : isSackB s = true) (h2 : FitsP b s x) : TInv b s x m s.tests 0 := ⟨h1, h2, rfl⟩
theorem isSackB_add {s : Sack} {ts : List (Int × Bool)} (h : isSackB (tsack s ts) = true) {t : Nat} {c : Bool} (ht : t < s.shells.length) (h6 : ts.length < 6) : isSackB (tsack s (ts ++ [((t : Int), c)])) = true := by
 unfold isSackB tsack at *
 simp only [Bool.and_eq_true, decide_eq_true_eq, Bool.not_eq_true', List.any_append, Bool.or_eq_false_iff] at *
 refine ⟨⟨⟨h.1.1.1, by simp; omega⟩, h.1.2⟩, h.2, ?_⟩
 simp only [List.any_cons, List.any_nil, Bool.or_false, Bool.not_eq_false']
 rw [inB_iff]; omega
/-- One test more. -/
theorem TInv.step {b : Book} {s : Sack} {x : Truth} {m : Int} {ts : List (Int × Bool)} {k : Nat} (hB : BookB b) (h : TInv b s x m ts k) (hk : knownB m (patternsOf b (tsack s ts)) = false) (hl : s.tests.length + s.shells.length ≤ 6)
  (hn : (bestP m (patternsOf b (tsack s ts))).2 + k ≤ s.shells.length) :
  ∃ (t n : Nat) (o : Org), bestP m (patternsOf b (tsack s ts)) = ((t : Int), (n : Int)) ∧ t < s.shells.length ∧ 1 ≤ n ∧ n ≤ s.shells.length ∧ ts.length < 6 ∧ x.org[t]? = some o ∧ TInv b s x m (ts ++ [((t : Int), closedB b o)]) (k + 1) ∧
   (knownB m (patternsOf b (tsack s (ts ++ [((t : Int), closedB b o)]))) = false → (bestP m (patternsOf b (tsack s (ts ++ [((t : Int), closedB b o)])))).2 < n ∧ (bestP m (patternsOf b (tsack s (ts ++ [((t : Int), closedB b o)])))).2 + (k + 1 : Nat) ≤ s.shells.length) := by
 have hS := sackB_of h.sk
 obtain ⟨t, ht, hsp, hbe, h1, h2⟩ := best_spec hS.n2 (pats_two hB hS) hk
 have hts : t < s.shells.length := ht
 have hn2 : (bestP m (patternsOf b (tsack s ts))).2 = askN1 m (patternsOf b (tsack s ts)) t := by rw [hbe]
 have h2' : askN1 m (patternsOf b (tsack s ts)) t ≤ s.shells.length := h2
 have h6 : ts.length < 6 := by have := h.len; omega
 have hxo : t < x.org.length := by rw [h.fit.1]; exact ht
 have ho : x.org[t]? = some x.org[t] := List.getElem?_eq_getElem hxo
 refine ⟨t, (askN1 m (patternsOf b (tsack s ts)) t).toNat, x.org[t], ?_, hts, by omega, by omega, h6, ho, ⟨isSackB_add h.sk hts h6, ?_, by rw [List.length_append, h.len]; simp; omega⟩, fun hk2 => ?_⟩
 ·rw [hbe, Int.toNat_of_nonneg (by omega)]
 ·exact (fits_test (s := tsack s ts) ht).2 ⟨h.fit, patO_bit b x.org ho⟩
 ·have := test_less (s := tsack s ts) hB hS ht h6 hk2
  have e : patternsOf b (addT (tsack s ts) [((t : Int), closedB b x.org[t])]) = patternsOf b (tsack s (ts ++ [((t : Int), closedB b x.org[t])])) := rfl
  rw [e] at this
  omega
theorem best_first {b : Book} {s : Sack} (hB : BookB b) (hS : SackB s) {m : Int} (hk : knownB m (patternsOf b s) = false) : (bestP m (patternsOf b s)).2 ≤ s.shells.length := by
 obtain ⟨t, ht, hsp, hbe, h1, h2⟩ := best_spec hS.n2 (pats_two hB hS) hk
 rw [hbe]; exact h2
end Go.Proofs.YtnhpibnneidmgaaGreatDoor
