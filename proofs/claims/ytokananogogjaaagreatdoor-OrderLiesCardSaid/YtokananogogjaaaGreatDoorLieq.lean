/- Plain laws of packs that known does not need. -/
import Derived.Test.YtokananogogjaaaGreatDoorOq
import Derived.Test.YtokananogogjaaaGreatDoorOdd
import Derived.Test.YtokananogogjaaaGreatDoorOql
import Derived.Test.YtokananogogjaaaGreatDoorOs
import Derived.Test.YtokananogogjaaaGreatDoorRbk
namespace Go.Proofs.YtokananogogjaaaGreatDoor
open Go.RowKit
theorem cmpL_self : ∀ a, cmpL a a = 0
 | [] => rfl
 | x :: a => by unfold cmpL; simp [cmpL_self a]
theorem cmpL_eq : ∀ {a b : List Int}, cmpL a b = 0 → a = b
 | [], [], _ => rfl
 | [], _ :: _, h => by simp [cmpL] at h
 | _ :: _, [], h => by simp [cmpL] at h
 | x :: a, y :: b, h => by
  unfold cmpL at h
  by_cases h1 : x < y
  ·rw [if_pos h1] at h; omega
  ·by_cases h2 : y < x
   ·rw [if_neg h1, if_pos h2] at h; omega
   ·rw [if_neg h1, if_neg h2] at h
    rw [cmpL_eq h, show x = y by omega]
theorem cmpL_set : ∀ {a b : List Int} {i : Nat}, cmpL (a.set i (a.getD i 0 + 1)) (b.set i (b.getD i 0 + 1)) = cmpL a b
 | [], [], i => by simp
 | [], y :: b, i => by cases i <;> simp [cmpL]
 | x :: a, [], i => by cases i <;> simp [cmpL]
 | x :: a, y :: b, 0 => by
  simp only [List.set_cons_zero, List.getD_cons_zero, cmpL]
  by_cases h1 : x < y
  ·rw [if_pos (by omega), if_pos h1]
  ·rw [if_neg (by omega), if_neg h1]
   by_cases h2 : y < x
   ·rw [if_pos (by omega), if_pos h2]
   ·rw [if_neg (by omega), if_neg h2]
 | x :: a, y :: b, i + 1 => by
  simp only [List.set_cons_succ, List.getD_cons_succ, cmpL]
  rw [cmpL_set (a := a) (b := b) (i := i)]
theorem cmpPk_add {i : Nat} {p : Int} {a b : Pk} (ha : i < a.1.length) (hb : i < b.1.length) : cmpPk (addPk i p a) (addPk i p b) = cmpPk a b := by
 unfold cmpPk addPk
 simp only [sum_set ha, sum_set hb, cmpL_set]
 by_cases h1 : a.2 < b.2
 ·rw [if_pos (by omega), if_pos h1]
 ·rw [if_neg (by omega), if_neg h1]
  by_cases h2 : b.2 < a.2
  ·rw [if_pos (by omega), if_pos h2]
  ·rw [if_neg (by omega), if_neg h2]
   by_cases h3 : a.1.sum < b.1.sum
   ·rw [if_pos (by omega), if_pos h3]
   ·rw [if_neg (by omega), if_neg h3]
    by_cases h4 : b.1.sum < a.1.sum
    ·rw [if_pos (by omega), if_pos h4]
    ·rw [if_neg (by omega), if_neg h4]
theorem all_zero : ∀ {c : List Int}, (∀ x, x ∈ c → 0 ≤ x) → c.sum = 0 → ∀ x, x ∈ c → x = 0
 | [], _, _ => by simp
 | y :: c, h, hs => by
  have h1 := sum_nonneg' (c := c) (fun y hy => h y (by simp [hy]))
  have h2 := h y (by simp)
  simp only [List.sum_cons] at hs
  intro x hx
  rcases List.mem_cons.1 hx with rfl | hx
  ·omega
  ·exact all_zero (fun y hy => h y (by simp [hy])) (by omega) x hx
theorem set_back {c : List Int} {i : Nat} (h : i < c.length) : (c.set i (c.getD i 0 + -1)).set i ((c.set i (c.getD i 0 + -1)).getD i 0 + 1) = c := by
 rw [List.set_set]
 apply List.ext_getElem?
 intro j
 by_cases e : i = j
 ·subst e
  rw [List.getElem?_set_self h, List.getD_eq_getElem?_getD, List.getElem?_set_self h, List.getD_eq_getElem?_getD, List.getElem?_eq_getElem h]; simp; omega
 ·rw [List.getElem?_set_ne e]
/-- No packs that hold enough are better. -/
theorem pk_best {ks : List (Int × Int)} (hK : PacksB ks) : ∀ (n : Nat) (c : List Int), Taken ks c → (n : Int) ≤ holdsOf ks c → cmpPk (pkAt ks n) (c, priceOf ks c) ≤ 0 := by
 intro n
 induction n using Nat.strongRecOn with
 | ind n ih =>
  intro c hc hh
  match n with
  | 0 =>
   rw [pkAt_zero, cmpPk_le]
   have hp := (holds_nonneg (fun k hk => by have := hK.all k hk; omega) hc.pos : 0 ≤ holdsOf ks c ∧ 0 ≤ priceOf ks c).2
   have hs := sum_nonneg' hc.pos
   have hz : (zeroPk ks).1.sum = 0 := by unfold zeroPk; simp
   have hz2 : (zeroPk ks).2 = 0 := rfl
   simp only [hz, hz2]
   by_cases h1 : 0 < priceOf ks c
   ·exact .inl h1
   ·refine .inr ⟨by omega, ?_⟩
    by_cases h2 : 0 < c.sum
    ·exact .inl h2
    ·refine .inr ⟨by omega, ?_⟩
     have : c = (zeroPk ks).1 := by
      unfold zeroPk
      exact List.eq_replicate_iff.2 ⟨hc.len, all_zero hc.pos (by omega)⟩
     rw [← this, cmpL_self]; omega
  | n + 1 =>
   obtain ⟨i, hi, hpos⟩ : ∃ i, i < c.length ∧ 0 < c.getD i 0 := by
    have hne : ¬ (∀ x, x ∈ c → x = 0) := fun h0 => by have := (holds_zero (ks := ks) h0).1; omega
    simp only [Classical.not_forall] at hne
    obtain ⟨x, hx, hx0⟩ := hne
    obtain ⟨i, hi⟩ := List.getElem?_of_mem hx
    have hil := (List.getElem?_eq_some_iff.1 hi).1
    refine ⟨i, hil, ?_⟩
    rw [List.getD_eq_getElem?_getD, hi]
    have := hc.pos x hx
    simp; omega
   have hik : i < ks.length := by rw [← hc.len]; exact hi
   have hk : ks[i]? = some ks[i] := by simp [hik]
   generalize ks[i] = k at hk
   have hkb := hK.all k (List.mem_of_getElem? hk)
   have hs := holds_set (cs := c) (-1 : Int) hk hc.len.symm
   have hc' : Taken ks (c.set i (c.getD i 0 + -1)) := ⟨by simp [hc.len], fun x hx => by
    rcases set_mem hx with rfl | hx
    ·omega
    ·exact hc.pos x hx⟩
   have h1 := ih (n + 1 - k.1.toNat) (by omega) _ hc' (by
    rcases Nat.lt_or_ge (n + 1) k.1.toNat with h | h
    ·have := (holds_nonneg (fun k hk => by have := hK.all k hk; omega) hc'.pos : 0 ≤ holdsOf ks _ ∧ 0 ≤ priceOf ks _).1; omega
    ·rw [hs.1]; omega)
   have hr := pk_ok hK (n + 1 - k.1.toNat)
   have h2 : cmpPk (addPk i k.2 (pkAt ks (n + 1 - k.1.toNat))) (addPk i k.2 (c.set i (c.getD i 0 + -1), priceOf ks (c.set i (c.getD i 0 + -1)))) ≤ 0 := by
    rw [cmpPk_add (by rw [hr.tak.len]; exact hik) (by simpa using hi)]; exact h1
   have h3 : addPk i k.2 (c.set i (c.getD i 0 + -1), priceOf ks (c.set i (c.getD i 0 + -1))) = (c, priceOf ks c) := by
    unfold addPk
    simp only [Prod.mk.injEq]
    exact ⟨set_back hi, by rw [hs.2]; omega⟩
   rw [h3] at h2
   obtain ⟨x, hx, _, hall⟩ := best_of ltPk_order (l := candFrom (fun h => pkAt ks (n + 1 - h.toNat)) 0 ks) (fun e => by
    have := pkAt_succ hK n; rw [e] at this; simp [bestOf] at this)
   rw [pkAt_succ hK n] at hx
   have hx' : pkAt ks (n + 1) = x := by simpa using hx
   have h4 := hall _ (List.mem_of_getElem? (cand_get (fun h => pkAt ks (n + 1 - h.toNat)) ks 0 i k hk))
   rw [ltPk_false, ← hx', Nat.zero_add] at h4
   exact cmpPk_trans h4 h2
theorem pk_more {ks : List (Int × Int)} (hK : PacksB ks) (n : Nat) : (pkAt ks n).2 ≤ (pkAt ks (n + 1)).2 := by
 have h := pk_ok hK (n + 1)
 have := cmpPk_le.1 (pk_best hK n (pkAt ks (n + 1)).1 h.tak (by have := h.holds; omega))
 rw [← h.price] at this
 simp only at this; omega
end Go.Proofs.YtokananogogjaaaGreatDoor

/- Letters that are odd, in plain Lean: what is left of a buyer, the best list. -/
namespace Go.Proofs.YtokananogogjaaaGreatDoor
/-- The letters that stay. -/
def keepTo (gone : List Int) (ls : List Letter) (k : Nat) : List Letter := (List.range k).flatMap fun i : Nat => if (i : Int) ∈ gone then [] else [ls.getD i (0, 0, 0, 0)]
def restB (x : Buyer) (gone : List Int) : Buyer := { editions := x.editions, letters := keepTo gone x.letters x.letters.length }
def Rising (n : Nat) (l : List Int) : Prop := l.Pairwise (· < ·) ∧ ∀ y, y ∈ l → 0 ≤ y ∧ y < n
theorem keepTo_succ (gone : List Int) (ls : List Letter) (k : Nat) : keepTo gone ls (k + 1) = keepTo gone ls k ++ (if (k : Int) ∈ gone then [] else [ls.getD k (0, 0, 0, 0)]) := by
 unfold keepTo; rw [List.range_succ, List.flatMap_append]; simp
theorem keepTo_len (gone : List Int) (ls : List Letter) : ∀ k, (keepTo gone ls k).length ≤ k
 | 0 => by simp [keepTo]
 | k + 1 => by
  have ih := keepTo_len gone ls k
  rw [keepTo_succ, List.length_append]
  split <;> simp <;> omega
theorem keep_mem {gone : List Int} {ls : List Letter} {k : Nat} {y : Letter} : y ∈ keepTo gone ls k ↔ ∃ i : Nat, i < k ∧ (i : Int) ∉ gone ∧ ls.getD i (0, 0, 0, 0) = y := by
 unfold keepTo
 simp only [List.mem_flatMap, List.mem_range]
 constructor
 ·rintro ⟨i, hi, h⟩
  split at h
  ·simp at h
  ·rw [List.mem_singleton] at h
   exact ⟨i, hi, by assumption, h.symm⟩
 ·rintro ⟨i, hi, hn, rfl⟩
  exact ⟨i, hi, by rw [if_neg hn]; simp⟩
theorem Rising.nodup {n : Nat} {l : List Int} (h : Rising n l) : l.Nodup := List.nodup_iff_pairwise_ne.2 (h.1.imp fun h e => by omega)
theorem nums_mem {n : Nat} {y : Int} : y ∈ numsOf n ↔ 0 ≤ y ∧ y < n := by
 unfold numsOf
 simp only [List.mem_map, List.mem_range]
 constructor
 ·rintro ⟨i, hi, rfl⟩; omega
 ·rintro ⟨h0, h1⟩; exact ⟨y.toNat, by omega, by omega⟩
theorem rising_len {n : Nat} {l : List Int} (h : Rising n l) : l.length ≤ n := by
 have := sub_len h.nodup (b := numsOf n) (fun y hy => nums_mem.2 (h.2 y hy))
 rwa [numsOf_length] at this
theorem wrong_rising (b : Book) (x : Buyer) (l : List Int) : Rising x.letters.length (wrongB b x l) := by
 unfold wrongB wrongTo
 refine ⟨List.Pairwise.filter _ ?_, fun y hy => nums_mem.1 (List.mem_filter.1 hy).1⟩
 unfold numsOf
 rw [List.pairwise_map]
 exact (List.pairwise_lt_range).imp fun h => by omega
theorem wrong_mem {b : Book} {x : Buyer} {l : List Int} {i : Nat} (hi : i < x.letters.length) : (i : Int) ∈ wrongB b x l ↔ offB b l (x.letters.getD i (0, 0, 0, 0)) = true := by
 unfold wrongB wrongTo
 rw [List.mem_filter]
 simp only [Int.toNat_natCast]
 exact ⟨fun h => h.2, fun h => ⟨nums_mem.2 ⟨by omega, by omega⟩, h⟩⟩
theorem wrong_nil {b : Book} {x : Buyer} {l : List Int} : wrongB b x l = [] ↔ ∀ y, y ∈ x.letters → offB b l y = false := by
 constructor
 ·intro h y hy
  obtain ⟨i, hi⟩ := List.getElem?_of_mem hy
  have hil := (List.getElem?_eq_some_iff.1 hi).1
  cases ho : offB b l y with
  | false => rfl
  | true =>
   have := (wrong_mem (b := b) (l := l) hil).2 (by rw [List.getD_eq_getElem?_getD, hi]; exact ho)
   rw [h] at this; simp at this
 ·intro h
  rw [List.eq_nil_iff_forall_not_mem]
  intro y hy
  obtain ⟨y0, y1⟩ := (wrong_rising b x l).2 y hy
  obtain ⟨i, rfl⟩ : ∃ i : Nat, y = (i : Int) := ⟨y.toNat, by omega⟩
  have h2 := (wrong_mem (show i < x.letters.length by omega)).1 hy
  rw [h _ (by rw [List.getD_eq_getElem?_getD, List.getElem?_eq_getElem (show i < x.letters.length by omega)]; simp)] at h2
  cases h2
theorem rest_nil {b : Book} {x : Buyer} {gone l : List Int} : wrongB b (restB x gone) l = [] ↔ ∀ y, y ∈ wrongB b x l → y ∈ gone := by
 rw [wrong_nil]
 constructor
 ·intro h y hy
  obtain ⟨y0, y1⟩ := (wrong_rising b x l).2 y hy
  obtain ⟨i, rfl⟩ : ∃ i : Nat, y = (i : Int) := ⟨y.toNat, by omega⟩
  refine Decidable.byContradiction fun hn => ?_
  have h2 := h _ (keep_mem.2 ⟨i, by omega, hn, rfl⟩)
  rw [(wrong_mem (b := b) (x := x) (l := l) (i := i) (by omega)).1 hy] at h2
  cases h2
 ·intro h y hy
  obtain ⟨i, hi, hn, rfl⟩ := keep_mem.1 hy
  cases ho : offB b l (x.letters.getD i (0, 0, 0, 0)) with
  | false => rfl
  | true => exact absurd (h _ ((wrong_mem hi).2 ho)) hn
theorem rest_reads (b : Book) (x : Buyer) (gone : List Int) : readsB b (restB x gone) = readsB b x := rfl
theorem rest_letters {b : Book} {x : Buyer} {gone : List Int} : lettersB b (restB x gone) = [] ↔ ∀ r, r ∈ readsB b x → ∃ y, y ∈ wrongB b x r.2 ∧ y ∉ gone := by
 unfold lettersB
 rw [rest_reads, List.filter_eq_nil_iff]
 constructor
 ·intro h r hr
  have h2 := h r hr
  rw [List.isEmpty_iff, rest_nil] at h2
  exact Decidable.byContradiction fun hn => h2 fun y hy => Decidable.byContradiction fun hg => hn ⟨y, hy, hg⟩
 ·intro h r hr h2
  rw [List.isEmpty_iff, rest_nil] at h2
  obtain ⟨y, hy, hg⟩ := h r hr
  exact hg (h2 y hy)
/-- Sorted lists, one in the other, as long: equal. -/
theorem sorted_eq : ∀ {a b : List Int}, a.Pairwise (· < ·) → b.Pairwise (· < ·) → (∀ y, y ∈ a → y ∈ b) → b.length ≤ a.length → a = b
 | [], b, _, _, _, h => by cases b with | nil => rfl | cons y b => simp at h
 | x :: a, [], _, _, hs, _ => by have := hs x (by simp); simp at this
 | x :: a, y :: b, ha, hb, hs, hl => by
  rw [List.pairwise_cons] at ha hb
  have hxb : ∀ z, z ∈ a → z ∈ b := fun z hz => by
   rcases List.mem_cons.1 (hs z (List.mem_cons_of_mem _ hz)) with h | h
   ·rcases List.mem_cons.1 (hs x (by simp)) with h2 | h2
    ·have := ha.1 z hz; omega
    ·have := hb.1 x h2; have := ha.1 z hz; omega
   ·exact h
  have e := sorted_eq ha.2 hb.2 hxb (by simpa using hl)
  subst e
  rcases List.mem_cons.1 (hs x (by simp)) with h | h
  ·rw [h]
  ·have := ha.1 x h; omega
theorem ltO_order : Order ltO where
 asym := fun a b h => by
  unfold ltO at *
  have hf := cmpL_flip a b
  cases h2 : (decide (b.length < a.length) || decide (b.length = a.length) && decide (cmpL b a < 0)) with
  | false => rfl
  | true =>
   simp only [Bool.or_eq_true, Bool.and_eq_true, decide_eq_true_eq] at h h2
   omega
 trans := fun a b c h1 h2 => by
  unfold ltO at *
  rw [Bool.eq_false_iff] at *
  simp only [ne_eq, Bool.or_eq_true, Bool.and_eq_true, decide_eq_true_eq, not_or, not_and] at *
  have f1 := cmpL_flip a b
  have f2 := cmpL_flip b c
  have f3 := cmpL_flip a c
  refine ⟨by omega, fun h => ?_⟩
  have e1 := h1.2 (by omega)
  have e2 := h2.2 (by omega)
  have := cmpL_trans (a := a) (b := b) (c := c) (by omega) (by omega)
  omega
theorem odd_best {b : Book} {x : Buyer} (h : readsB b x ≠ []) : ∃ r, r ∈ readsB b x ∧ oddB b x = wrongB b x r.2 ∧ ∀ q, q ∈ readsB b x → ltO (wrongB b x q.2) (oddB b x) = false := by
 have hne : wrongsB b x ≠ [] := by unfold wrongsB; simpa using h
 obtain ⟨o, h1, h2, h3⟩ := best_of ltO_order hne
 have ho : oddB b x = o := by unfold oddB; rw [h1]; rfl
 unfold wrongsB at h2 h3
 obtain ⟨r, hr, rfl⟩ := List.mem_map.1 h2
 exact ⟨r, hr, ho, fun q hq => by rw [ho]; exact h3 _ (List.mem_map.2 ⟨q, hq, rfl⟩)⟩
theorem rest_buyer {b : Book} {x : Buyer} {gone : List Int} (hx : isBuyerB b x = true) (hl : gone.length < x.letters.length) : isBuyerB b (restB x gone) = true := by
 unfold isBuyerB at *
 simp only [Bool.and_eq_true, Bool.not_eq_true', List.any_eq_false] at *
 obtain ⟨⟨h1, h2⟩, h3⟩ := hx
 have h4 := inB_iff.1 h2
 refine ⟨⟨h1, inB_iff.2 ⟨?_, ?_⟩⟩, fun y hy => ?_⟩
 ·have hex : ∃ i : Nat, i < x.letters.length ∧ (i : Int) ∉ gone := by
   refine Decidable.byContradiction fun hn => ?_
   have h5 := sub_len (a := numsOf x.letters.length) (b := gone) (numsOf_nodup _) (fun y hy => by
    obtain ⟨y0, y1⟩ := nums_mem.1 hy
    refine Decidable.byContradiction fun h => hn ⟨y.toNat, by omega, ?_⟩
    rwa [Int.toNat_of_nonneg y0])
   rw [numsOf_length] at h5
   omega
  obtain ⟨i, hi, hn⟩ := hex
  have := List.length_pos_of_mem (keep_mem.2 ⟨i, hi, hn, rfl⟩ : x.letters.getD i (0, 0, 0, 0) ∈ keepTo gone x.letters x.letters.length)
  show (1 : Int) ≤ ((keepTo gone x.letters x.letters.length).length : Int)
  omega
 ·have := keepTo_len gone x.letters x.letters.length
  show ((keepTo gone x.letters x.letters.length).length : Int) ≤ 4
  omega
 ·obtain ⟨i, hi, _, rfl⟩ := keep_mem.1 hy
  exact h3 _ (by rw [List.getD_eq_getElem?_getD, List.getElem?_eq_getElem hi]; simp)
/-- Without the odd letters the others are true in some truth. -/
theorem odd_enough {b : Book} {x : Buyer} (hz : askErr b true = 0) (hx : isBuyerB b x = true) (h : readsB b x ≠ []) (hl : (oddB b x).length < x.letters.length) : letErr b (restB x (oddB b x)) = 0 := by
 obtain ⟨r, hr, ho, _⟩ := odd_best h
 have hg : Rising x.letters.length (oddB b x) := by rw [ho]; exact wrong_rising b x r.2
 unfold letErr
 rw [rest_buyer hx hl, if_pos hz, if_neg]
 intro hn
 obtain ⟨y, hy, hng⟩ := rest_letters.1 hn r hr
 exact hng (by rw [ho]; exact hy)
/-- No list that is fewer, or as many and before, is enough. -/
theorem odd_least {b : Book} {x : Buyer} {gone : List Int} (hz : askErr b true = 0) (hx : isBuyerB b x = true) (h : readsB b x ≠ []) (hg : Rising x.letters.length gone) (hb : ltO gone (oddB b x) = true) : letErr b (restB x gone) = 7 := by
 obtain ⟨r, hr, ho, hmin⟩ := odd_best h
 have hgo : Rising x.letters.length (oddB b x) := by rw [ho]; exact wrong_rising b x r.2
 have hol := rising_len hgo
 have hb2 := hb
 unfold ltO at hb2
 simp only [Bool.or_eq_true, Bool.and_eq_true, decide_eq_true_eq] at hb2
 have hl : gone.length < x.letters.length := by
  refine Decidable.byContradiction fun hn => ?_
  have e : gone = oddB b x := by
   have h1 : ∀ y, y ∈ gone → y ∈ numsOf x.letters.length := fun y hy => nums_mem.2 (hg.2 y hy)
   have h2 : ∀ y, y ∈ oddB b x → y ∈ numsOf x.letters.length := fun y hy => nums_mem.2 (hgo.2 y hy)
   have hns : (numsOf x.letters.length).Pairwise (· < ·) := by
    unfold numsOf
    rw [List.pairwise_map]
    exact (List.pairwise_lt_range).imp fun h => by omega
   rw [sorted_eq hg.1 hns h1 (by rw [numsOf_length]; omega), sorted_eq hgo.1 hns h2 (by rw [numsOf_length]; omega)]
  rw [e, cmpL_self] at hb2
  omega
 unfold letErr
 rw [rest_buyer hx hl, if_pos hz, if_pos]
 rw [rest_letters]
 intro q hq
 refine Decidable.byContradiction fun hn => ?_
 have hsub : ∀ y, y ∈ wrongB b x q.2 → y ∈ gone := fun y hy => Decidable.byContradiction fun hg => hn ⟨y, hy, hg⟩
 have hw := wrong_rising b x q.2
 have h1 := sub_len hw.nodup hsub
 have h2 := hmin q hq
 have h3 : ltO (wrongB b x q.2) (oddB b x) = true := by
  rcases Nat.lt_or_ge (wrongB b x q.2).length gone.length with h | h
  ·unfold ltO
   simp only [Bool.or_eq_true, Bool.and_eq_true, decide_eq_true_eq]
   omega
  ·rw [sorted_eq hw.1 hg.1 hsub h]; exact hb
 rw [h2] at h3; cases h3
end Go.Proofs.YtokananogogjaaaGreatDoor

/- Lists compared from their first difference, in plain Lean. -/
namespace Go.Proofs.YtokananogogjaaaGreatDoor
open Go.RowKit
/-! ### Lists compared from their first difference -/
theorem take_same {α : Type} {a b : List α} {k : Nat} (h : a.take k = b.take k) (hk : a[k]? = b[k]?) : a.take (k + 1) = b.take (k + 1) := by
 rw [List.take_add_one, List.take_add_one, h, hk]
theorem cmpL_diff : ∀ {a b : List Int} {j : Nat} {x y : Int}, a.take j = b.take j → a[j]? = some x → b[j]? = some y → x ≠ y → cmpL a b = if x < y then -1 else 1
 | [], _, j, x, y, _, ha, _, _ => by simp at ha
 | _ :: _, [], j, x, y, _, _, hb, _ => by simp at hb
 | p :: a, q :: b, 0, x, y, _, ha, hb, hn => by
  simp at ha hb; subst ha hb
  unfold cmpL
  split
  ·rfl
  ·rw [if_pos (by omega)]
 | p :: a, q :: b, j + 1, x, y, h, ha, hb, hn => by
  simp at ha hb h
  unfold cmpL
  rw [h.1, if_neg (by omega), if_neg (by omega)]
  exact cmpL_diff h.2 ha hb hn
theorem cmpL_pre : ∀ {a b : List Int} {k : Nat}, a.take k = b.take k → (k = a.length ∨ k = b.length) → k ≤ a.length → k ≤ b.length → (cmpL a b < 0 ↔ a.length < b.length)
 | [], [], k, _, _, _, _ => by simp [cmpL]
 | [], _ :: _, k, _, _, _, _ => by simp [cmpL]
 | _ :: _, [], k, _, _, _, _ => by simp [cmpL]
 | p :: a, q :: b, 0, h, hk, _, _ => by simp at hk
 | p :: a, q :: b, k + 1, h, hk, ka, kb => by
  simp at h hk ka kb
  unfold cmpL
  rw [h.1, if_neg (by omega), if_neg (by omega), cmpL_pre h.2 hk ka kb]; simp
theorem cmpLL_diff : ∀ {a b : List (List Int)} {k : Nat} {r s : List Int}, a.take k = b.take k → a[k]? = some r → b[k]? = some s → cmpL r s ≠ 0 → cmpLL a b = cmpL r s
 | [], _, _, _, _, _, ha, _, _ => by simp at ha
 | _ :: _, [], _, _, _, _, _, hb, _ => by simp at hb
 | p :: a, q :: b, 0, r, s, _, ha, hb, hn => by
  simp at ha hb; subst ha hb
  unfold cmpLL; rw [if_neg hn]
 | p :: a, q :: b, k + 1, r, s, h, ha, hb, hn => by
  simp at ha hb h
  unfold cmpLL
  rw [h.1, if_pos (cmpL_self q)]
  exact cmpLL_diff h.2 ha hb hn
theorem cmpLL_self : ∀ a, cmpLL a a = 0
 | [] => rfl
 | x :: a => by unfold cmpLL; rw [cmpL_self, if_pos rfl]; exact cmpLL_self a
theorem sum_pos_iff : ∀ {r : List Int}, (∀ x, x ∈ r → 0 ≤ x) → (0 < r.sum ↔ ∃ x, x ∈ r ∧ 0 < x)
 | [], _ => by simp
 | x :: r, h => by
  have h0 := h x (by simp)
  have hr := sum_nonneg' (c := r) (fun y hy => h y (by simp [hy]))
  have ih := sum_pos_iff (r := r) (fun y hy => h y (by simp [hy]))
  simp only [List.sum_cons, List.mem_cons]
  constructor
  ·intro hp
   by_cases hx : 0 < x
   ·exact ⟨x, .inl rfl, hx⟩
   ·obtain ⟨y, hy, h1⟩ := ih.1 (by omega); exact ⟨y, .inr hy, h1⟩
  ·rintro ⟨y, rfl | hy, h1⟩
   ·omega
   ·have := ih.2 ⟨y, hy, h1⟩; omega
theorem bought_sum {r : List Int} (h : ∀ x, x ∈ r → 0 ≤ x) : (r.any fun x => decide (0 < x)) = decide (0 < r.sum) := by
 rw [Bool.eq_iff_iff, List.any_eq_true, decide_eq_true_eq, sum_pos_iff h]
 constructor
 ·rintro ⟨x, hx, h⟩; exact ⟨x, hx, by simpa using h⟩
 ·rintro ⟨x, hx, h⟩; exact ⟨x, hx, by simpa using h⟩
def preferB (ls : List Seller) (a b : List (List Int)) : Bool := if costsB ls a = costsB ls b then (if sellersOf a = sellersOf b then decide (cmpLL a b < 0) else decide (sellersOf a < sellersOf b)) else decide (costsB ls a < costsB ls b)
end Go.Proofs.YtokananogogjaaaGreatDoor

/- Packs that are taken, in plain Lean. -/
namespace Go.Proofs.YtokananogogjaaaGreatDoor
open Go.RowKit
/-! ### Packs that are taken -/
def badTake (n : Int) : Bool := !inB n 0 600
def okTake (ks : List (Int × Int)) (c : List Int) : Bool := decide (c.length ≤ ks.length) && !(c.any badTake)
theorem holds_take : ∀ {ks : List (Int × Int)} {c : List Int} {i : Nat} {k : Int × Int} {n : Int}, ks[i]? = some k → c[i]? = some n → holdsOf ks (c.take (i + 1)) = holdsOf ks (c.take i) + n * k.1 ∧ priceOf ks (c.take (i + 1)) = priceOf ks (c.take i) + n * k.2
 | [], _, _, _, _, h, _ => by simp at h
 | _ :: _, [], _, _, _, _, h => by simp at h
 | q :: ks, m :: c, 0, k, n, h1, h2 => by
  simp at h1 h2; subst h1 h2
  simp [holdsOf, priceOf]
 | q :: ks, m :: c, i + 1, k, n, h1, h2 => by
  have h := holds_take (i := i) (by simpa using h1) (by simpa using h2)
  rw [List.take_succ_cons, List.take_succ_cons]
  simp only [holdsOf, priceOf]
  omega
theorem sum_takeK {c : List Int} {i : Nat} {n : Int} (h : c[i]? = some n) : (c.take (i + 1)).sum = (c.take i).sum + n := by
 rw [List.take_add_one, h, List.sum_append]; simp
theorem take_bd : ∀ {c : List Int} {k : Nat}, (∀ j, j < k → ∃ n, c[j]? = some n ∧ inB n 0 600 = true) → 0 ≤ (c.take k).sum ∧ (c.take k).sum ≤ 600 * k
 | c, 0, _ => by simp
 | c, k + 1, h => by
  obtain ⟨n, hn, hb⟩ := h k (by omega)
  have := take_bd (c := c) (k := k) fun j hj => h j (by omega)
  have := inB_iff.1 hb
  rw [sum_takeK hn]; omega
theorem mul_bd {n p : Int} {B : Int} (h0 : 0 ≤ n) (h1 : n ≤ 600) (p0 : 0 ≤ p) (p1 : p ≤ B) : 0 ≤ n * p ∧ n * p ≤ 600 * B := by
 refine ⟨Int.mul_nonneg h0 p0, ?_⟩
 calc n * p ≤ 600 * p := Int.mul_le_mul_of_nonneg_right h1 p0
  _ ≤ 600 * B := Int.mul_le_mul_of_nonneg_left p1 (by omega)
theorem holds_bd {ks : List (Int × Int)} (hK : PacksB ks) : ∀ {c : List Int} {k : Nat}, k ≤ ks.length → (∀ j, j < k → ∃ n, c[j]? = some n ∧ inB n 0 600 = true) → (0 ≤ holdsOf ks (c.take k) ∧ holdsOf ks (c.take k) ≤ 86400 * k) ∧ (0 ≤ priceOf ks (c.take k) ∧ priceOf ks (c.take k) ≤ 600000 * k)
 | c, 0, _, _ => by cases ks <;> simp [holdsOf, priceOf]
 | c, k + 1, hk, h => by
  obtain ⟨n, hn, hb⟩ := h k (by omega)
  have ih := holds_bd hK (c := c) (k := k) (by omega) fun j hj => h j (by omega)
  have hb := inB_iff.1 hb
  obtain ⟨q, hq⟩ : ∃ q, ks[k]? = some q := ⟨_, List.getElem?_eq_getElem (by omega)⟩
  have ha := hK.all q (List.mem_of_getElem? hq)
  obtain ⟨e1, e2⟩ := holds_take hq hn
  have m1 := mul_bd (B := 144) hb.1 hb.2 (by omega : 0 ≤ q.1) (by omega)
  have m2 := mul_bd (B := 1000) hb.1 hb.2 (by omega : 0 ≤ q.2) (by omega)
  rw [e1, e2]
  omega
theorem ok_taken {ks : List (Int × Int)} {c : List Int} (h : okTake ks c = true) (hl : c.length = ks.length) : Taken ks c := by
 unfold okTake at h
 rw [Bool.and_eq_true, Bool.not_eq_true', List.any_eq_false] at h
 refine ⟨hl, fun x hx => ?_⟩
 have := h.2 x hx
 unfold badTake at this
 simp [inB] at this
 omega
theorem taken_ok {ks : List (Int × Int)} {n : Nat} {r : Pk} (h : PkOk ks n r) (hn : n ≤ 600) : okTake ks r.1 = true := by
 unfold okTake
 rw [Bool.and_eq_true, Bool.not_eq_true', List.any_eq_false]
 refine ⟨by have := h.tak.len; simp; omega, fun x hx => ?_⟩
 have h1 := h.tak.pos x hx
 have h2 := le_sum' h.tak.pos hx
 have h3 := h.many
 unfold badTake
 simp [inB]
 omega
/-- What the law asks of better packs. -/
def betterPk (a b : List Int × Int) (m n : Int) : Bool := if a.2 = b.2 then (if m = n then decide (cmpL a.1 b.1 < 0) else decide (m < n)) else decide (a.2 < b.2)
theorem better_no {ks : List (Int × Int)} (hK : PacksB ks) {n : Nat} {c : List Int} (h : Taken ks c) (hh : (n : Int) ≤ holdsOf ks c) : betterPk (c, priceOf ks c) (pkAt ks n) c.sum (pkAt ks n).1.sum = false := by
 have h1 := cmpPk_le.1 (pk_best hK n c h hh)
 simp only at h1
 unfold betterPk
 simp only
 split
 ·split
  ·have h2 := cmpL_flip c (pkAt ks n).1
   simp; omega
  ·simp; omega
 ·simp; omega
end Go.Proofs.YtokananogogjaaaGreatDoor

/- The reference's Before. -/
namespace Go.Proofs.YtokananogogjaaaGreatDoor
open Go.RowKit
set_option maxRecDepth 100000 in
set_option maxHeartbeats 4000000 in
theorem rbefore_any (va vb : Value) (xs ys : List Int) (w : World) (ha : IntsAt w va xs) (hb : IntsAt w vb ys) :
  Calls Tryz.prog 23 #[va, vb] w fun e w' => e = .returned (.bool (decide (cmpL xs ys < 0))) ∧ Ext w w' := by
 obtain ⟨a, c, rfl, h1, h2, h3⟩ := ha.open
 obtain ⟨a', c', rfl, h1', h2', h3'⟩ := hb.open
 have hmix : Tryz.prog.follows .mixedOrders = true := by kernel_rfl
 have H3 := Lib.hid h3
 have H3' := Lib.hid h3'
 clear h3 h3' ha hb
 go_enter Tryz.func23, Tryz.ntmps23
 go_wp2
 go_loopw [5] (fun i wr => ∃ k : Nat, k ≤ xs.length ∧ k ≤ ys.length ∧ i = .int .i64 k ∧ Hid (xs.take k = ys.take k) ∧ Ext w wr) (fun i _ => xs.length - (intOf i).toNat)
 case atStart => exact ⟨0, Nat.zero_le _, Nat.zero_le _, rfl, rfl, Ext.refl _⟩
 case round =>
  obtain ⟨k, hk, hk', rfl, he, hx⟩ := hrel
  by_cases hlt : k < xs.length
  ·have x1 : decide ((k : Int) < (xs.length : Int)) = true := by simpa using hlt
   by_cases hlt' : k < ys.length
   ·have x2 : decide ((k : Int) < (ys.length : Int)) = true := by simpa using hlt'
    obtain ⟨b, o, x, rfl, hxk, hc⟩ := H3.out k hlt
    obtain ⟨b', o', y, rfl, hyk, hc'⟩ := H3'.out k hlt'
    have d0 := hx.cell hc
    have d1 := hx.cell hc'
    have i1 : (0 : Int) ≤ (k : Int) := by omega
    have i2 : (k : Int) < (xs.length : Int) := by omega
    have i3 : (k : Int) < (ys.length : Int) := by omega
    clear hc hc'
    by_cases hxy : x = y
    ·subst hxy
     have t3 : (x != x) = false := by simp
     have HE := Lib.hid (take_same he.out (by rw [hxk.out, hyk.out]))
     clear he hxk hyk
     go_wp2
     go_quiet (fail)
     go_wp2
     exact ⟨⟨k + 1, by omega, by omega, by go_num, HE.out, hx.drewN _⟩, by simp [intOf]; omega⟩
    ·have t3 : (x != y) = true := by simpa using hxy
     have HR : Hid (decide (cmpL xs ys < 0) = decide (x < y)) := by
      unfold Hid
      rw [cmpL_diff he.out hxk.out hyk.out hxy]
      by_cases h : x < y <;> simp [h]
     clear he hxk hyk
     go_wp2
     go_quiet (fail)
     go_wp2
     go_quiet (fail)
     go_wp2
     go_ret
     exact ⟨by rw [HR.out] <;> rfl, (hx.drewN _).drewN _⟩
   ·have x2 : decide ((k : Int) < (ys.length : Int)) = false := by simpa using hlt'
    have HR : Hid (decide (cmpL xs ys < 0) = decide (xs.length < ys.length)) := by
     unfold Hid
     have h := cmpL_pre he.out (.inr (by omega)) hk hk'
     rw [Bool.eq_iff_iff, decide_eq_true_eq, decide_eq_true_eq, h]
    clear he
    go_wp2
    go_ret
    exact ⟨by rw [HR.out] <;> rfl, hx⟩
  ·have x1 : decide ((k : Int) < (xs.length : Int)) = false := by simpa using hlt
   have HR : Hid (decide (cmpL xs ys < 0) = decide (xs.length < ys.length)) := by
    unfold Hid
    have h := cmpL_pre he.out (.inl (by omega)) hk hk'
    rw [Bool.eq_iff_iff, decide_eq_true_eq, decide_eq_true_eq, h]
   clear he
   go_wp2
   go_ret
   exact ⟨by rw [HR.out] <;> rfl, hx⟩
end Go.Proofs.YtokananogogjaaaGreatDoor
