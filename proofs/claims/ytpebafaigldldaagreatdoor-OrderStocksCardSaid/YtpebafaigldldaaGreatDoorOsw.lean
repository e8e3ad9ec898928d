/- Plain laws of purchases that known does not need. -/
import Derived.Test.YtpebafaigldldaaGreatDoorOs
import Derived.Test.YtpebafaigldldaaGreatDoorOkl
namespace Go.Proofs.YtpebafaigldldaaGreatDoor
open Go.RowKit
theorem cmpL_first : ∀ {a b : List Int} {j : Nat}, a.length = b.length → j < a.length → (∀ k, k < j → a.getD k 0 = b.getD k 0) → a.getD j 0 < b.getD j 0 → cmpL a b = -1
 | [], _, j, _, h, _, _ => by simp at h
 | x :: a, [], j, h, _, _, _ => by simp at h
 | x :: a, y :: b, 0, _, _, _, h => by unfold cmpL; rw [if_pos (by simpa using h)]
 | x :: a, y :: b, j + 1, hl, hj, hk, h => by
  have h0 : x = y := by simpa using hk 0 (by omega)
  subst h0
  unfold cmpL
  rw [if_neg (by omega), if_neg (by omega)]
  exact cmpL_first (j := j) (by simpa using hl) (by simpa using hj) (fun k hk' => by simpa using hk (k + 1) (by omega)) (by simpa using h)
theorem dot_set : ∀ {c P : List Int} {i : Nat} (d : Int), i < c.length → c.length = P.length → dotL (c.set i (c.getD i 0 + d)) P = dotL c P + d * P.getD i 0
 | [], P, i, d, h, _ => by simp at h
 | x :: c, [], i, d, _, h => by simp at h
 | x :: c, p :: P, 0, d, _, _ => by simp only [List.set_cons_zero, List.getD_cons_zero, dotL, Int.add_mul]; omega
 | x :: c, p :: P, i + 1, d, h, hl => by
  simp only [List.set_cons_succ, List.getD_cons_succ, dotL]
  rw [dot_set (c := c) (P := P) (i := i) d (by simpa using h) (by simpa using hl)]; omega
/-- A column is no dearer than another one, nor as dear and later. -/
def leCol (P a b : List Int) : Prop := dotL a P < dotL b P ∨ dotL a P = dotL b P ∧ cmpL a b ≤ 0
theorem leCol.trans {P a b c : List Int} (h1 : leCol P a b) (h2 : leCol P b c) : leCol P a c := by
 unfold leCol at *
 rcases h1 with h1 | ⟨e1, h1⟩
 ·rcases h2 with h2 | ⟨e2, h2⟩ <;> (left; omega)
 ·rcases h2 with h2 | ⟨e2, h2⟩
  ·left; omega
  ·exact .inr ⟨by omega, cmpL_trans h1 h2⟩
theorem sum_mem_pos {f : Nat → Int} : ∀ {o : List Nat}, 0 < (o.map f).sum → ∃ j, j ∈ o ∧ 0 < f j
 | [], h => by simp at h
 | i :: o, h => by
  simp only [List.map_cons, List.sum_cons] at h
  by_cases h0 : 0 < f i
  ·exact ⟨i, by simp, h0⟩
  ·obtain ⟨j, hj, hp⟩ := sum_mem_pos (f := f) (o := o) (by omega)
   exact ⟨j, by simp [hj], hp⟩
theorem sum_dec {f g : Nat → Int} {j : Nat} : ∀ {o : List Nat}, o.Nodup → j ∈ o → (∀ k, k ∈ o → k ≠ j → g k = f k) → g j = f j - 1 → (o.map g).sum = (o.map f).sum - 1
 | [], _, h, _, _ => by simp at h
 | i :: o, hd, hj, hk, hg => by
  rw [List.nodup_cons] at hd
  simp only [List.map_cons, List.sum_cons]
  by_cases e : j = i
  ·subst e
   rw [sum_nat_congr (f := g) (g := f) (fun x hx => hk x (by simp [hx]) (fun e => hd.1 (by rw [← e]; exact hx)))]; omega
  ·rw [sum_dec (o := o) hd.2 (by simpa [e] using hj) (fun k hk' hn => hk k (by simp [hk']) hn) hg, hk i (by simp) (fun e' => e e'.symm)]; omega
theorem greedy_best {S P : List Int} : ∀ (o : List Nat) (left : Int) (c y : List Int), o.Nodup → o.Pairwise (sooner P) → (∀ i, i ∈ o → i < c.length) → y.length = c.length → c.length = P.length →
  (∀ k, k ∉ o → y.getD k 0 = c.getD k 0) → (∀ k, k ∈ o → 0 ≤ y.getD k 0 ∧ y.getD k 0 ≤ S.getD k 0) → (o.map fun k => y.getD k 0).sum = left →
  (greedyL S o left c).2 = 0 ∧ leCol P (greedyL S o left c).1 y
 | [], left, c, y, _, _, _, hl, _, hk, _, hs => by
  have : y = c := list_ext hl fun j _ => hk j (by simp)
  subst this
  simp at hs
  exact ⟨hs.symm, .inr ⟨rfl, by rw [greedyL]; simp [cmpL_self]⟩⟩
 | i :: o, left, c, y, hd, hp, hi, hl, hP, hk, hb, hs => by
  have ih := fun left c y => greedy_best (S := S) (P := P) o left c y
  rw [List.nodup_cons] at hd
  rw [List.pairwise_cons] at hp
  have hic := hi i (by simp)
  have key : ∀ (m : Nat) (y : List Int), y.length = c.length → (∀ k, k ∉ i :: o → y.getD k 0 = c.getD k 0) → (∀ k, k ∈ i :: o → 0 ≤ y.getD k 0 ∧ y.getD k 0 ≤ S.getD k 0) → ((i :: o).map fun k => y.getD k 0).sum = left →
    (min left (S.getD i 0) - y.getD i 0).toNat ≤ m → (greedyL S (i :: o) left c).2 = 0 ∧ leCol P (greedyL S (i :: o) left c).1 y := by
   intro m
   induction m with
   | zero =>
    intro y hl hk hb hs hm
    have h1 := hb i (by simp)
    have h2 : 0 ≤ (o.map fun k => y.getD k 0).sum := sum_nonneg fun k hk' => (hb k (by simp [hk'])).1
    simp only [List.map_cons, List.sum_cons] at hs
    have e : y.getD i 0 = min left (S.getD i 0) := by omega
    unfold greedyL
    refine ih _ _ y hd.2 hp.2 (fun k hk' => by simp; exact hi k (by simp [hk'])) (by simp [hl]) (by simp [hP]) (fun k hk' => ?_) (fun k hk' => hb k (by simp [hk'])) (by omega)
    rw [getD_set hic]
    by_cases e' : i = k
    ·subst e'; rw [if_pos rfl, e]
    ·rw [if_neg e']; exact hk k (by simp [hk']; exact fun h => e' h.symm)
   | succ m ihm =>
    intro y hl hk hb hs hm
    by_cases hle : (min left (S.getD i 0) - y.getD i 0).toNat ≤ m
    ·exact ihm y hl hk hb hs hle
    have h1 := hb i (by simp)
    have hs' := hs
    simp only [List.map_cons, List.sum_cons] at hs'
    obtain ⟨j, hj, hjp⟩ := sum_mem_pos (f := fun k => y.getD k 0) (o := o) (by omega)
    have hij : i ≠ j := fun e => hd.1 (by rw [e]; exact hj)
    have hjc := hi j (by simp [hj])
    have hiy : i < y.length := by omega
    have hjy : j < (y.set i (y.getD i 0 + 1)).length := by simp; omega
    have hyj : (y.set i (y.getD i 0 + 1)).getD j 0 = y.getD j 0 := by rw [getD_set hiy, if_neg hij]
    obtain ⟨z, hz⟩ : ∃ z, z = (y.set i (y.getD i 0 + 1)).set j ((y.set i (y.getD i 0 + 1)).getD j 0 + -1) := ⟨_, rfl⟩
    have zi : z.getD i 0 = y.getD i 0 + 1 := by rw [hz, getD_set hjy, if_neg (fun e => hij e.symm), getD_set hiy, if_pos rfl]
    have zj : z.getD j 0 = y.getD j 0 - 1 := by rw [hz, getD_set hjy, if_pos rfl, hyj]; omega
    have zk : ∀ k, k ≠ i → k ≠ j → z.getD k 0 = y.getD k 0 := fun k h1 h2 => by rw [hz, getD_set hjy, if_neg (fun e => h2 e.symm), getD_set hiy, if_neg (fun e => h1 e.symm)]
    have zl : z.length = c.length := by rw [hz]; simp [hl]
    have hcost : dotL z P = dotL y P + P.getD i 0 - P.getD j 0 := by
     rw [hz, dot_set _ hjy (by simp [hl, hP]), dot_set _ hiy (by omega)]; omega
    have hr := ihm z zl (fun k hk' => ?_) (fun k hk' => ?_) ?_ ?_
    ·refine ⟨hr.1, hr.2.trans ?_⟩
     unfold leCol
     rcases hp.1 j hj with h | ⟨h, hji⟩
     ·left; omega
     ·right
      refine ⟨by omega, ?_⟩
      rw [cmpL_first (j := j) (by omega) (by omega) (fun k hk' => zk k (by omega) (by omega)) (by omega)]; omega
    ·rw [zk k (fun e => hk' (by simp [e])) (fun e => hk' (by simp [e, hj]))]; exact hk k hk'
    ·by_cases e1 : k = i
     ·subst e1; rw [zi]; omega
     ·by_cases e2 : k = j
      ·subst e2; rw [zj]; have := hb k (by simp [hj]); omega
      ·rw [zk k e1 e2]; exact hb k hk'
    ·simp only [List.map_cons, List.sum_cons]
     rw [zi, sum_dec (f := fun k => y.getD k 0) hd.2 hj (fun k hk' hn => zk k (fun e => hd.1 (by rw [← e]; exact hk')) hn) zj]; omega
    ·rw [zi]; omega
  exact key _ y hl hk hb hs (Nat.le_refl _)
theorem cmpLL_self : ∀ a, cmpLL a a = 0
 | [] => rfl
 | x :: a => by unfold cmpLL; rw [cmpL_self, if_pos rfl]; exact cmpLL_self a
theorem cmpLL_flip : ∀ a b, cmpLL b a = - cmpLL a b
 | [], [] => rfl
 | [], _ :: _ => rfl
 | _ :: _, [] => rfl
 | x :: a, y :: b => by
  unfold cmpLL
  rw [cmpL_flip x y]
  by_cases h : cmpL x y = 0
  ·rw [if_pos (by omega), if_pos h]; exact cmpLL_flip a b
  ·rw [if_neg (by omega), if_neg h]
theorem cmpLL_trans : ∀ {a b c : List (List Int)}, cmpLL a b ≤ 0 → cmpLL b c ≤ 0 → cmpLL a c ≤ 0
 | [], [], c, _, h => h
 | [], _ :: _, [], _, _ => by simp [cmpLL]
 | [], _ :: _, _ :: _, _, _ => by simp [cmpLL]
 | x :: a, [], c, h, _ => by simp [cmpLL] at h
 | x :: a, y :: b, [], _, h => by simp [cmpLL] at h
 | x :: a, y :: b, z :: c, h1, h2 => by
  unfold cmpLL at *
  have hxy : cmpL x y ≤ 0 := by split at h1 <;> omega
  have hyz : cmpL y z ≤ 0 := by split at h2 <;> omega
  have hxz := cmpL_trans hxy hyz
  by_cases e : cmpL x z = 0
  ·rw [if_pos e]
   have hzx : cmpL z x ≤ 0 := by rw [cmpL_flip x z]; omega
   have e1 : cmpL x y = 0 := by have := cmpL_trans hyz hzx; rw [cmpL_flip x y] at this; omega
   have e2 : cmpL y z = 0 := by have := cmpL_trans hzx hxy; rw [cmpL_flip y z] at this; omega
   rw [if_pos e1] at h1; rw [if_pos e2] at h2
   exact cmpLL_trans h1 h2
  ·rw [if_neg e]; exact hxz
def leBt (a b : Bought) : Prop := a.2.1 < b.2.1 ∨ a.2.1 = b.2.1 ∧ (a.2.2 < b.2.2 ∨ a.2.2 = b.2.2 ∧ cmpLL a.1 b.1 ≤ 0)
theorem ltB_false {a b : Bought} : ltB a b = false ↔ leBt b a := by
 unfold ltB leBt
 by_cases h1 : a.2.1 = b.2.1
 ·rw [if_pos h1]
  by_cases h2 : a.2.2 = b.2.2
  ·rw [if_pos h2, decide_eq_false_iff_not, cmpLL_flip b.1 a.1]; omega
  ·rw [if_neg h2, decide_eq_false_iff_not]; omega
 ·rw [if_neg h1, decide_eq_false_iff_not]; omega
theorem leBt.trans {a b c : Bought} (h1 : leBt a b) (h2 : leBt b c) : leBt a c := by
 unfold leBt at *
 rcases h1 with h1 | ⟨e1, h1⟩
 ·rcases h2 with h2 | ⟨e2, h2⟩ <;> (left; omega)
 ·rcases h2 with h2 | ⟨e2, h2⟩
  ·left; omega
  ·refine .inr ⟨by omega, ?_⟩
   rcases h1 with h1 | ⟨f1, h1⟩
   ·rcases h2 with h2 | ⟨f2, h2⟩ <;> (left; omega)
   ·rcases h2 with h2 | ⟨f2, h2⟩
    ·left; omega
    ·exact .inr ⟨by omega, cmpLL_trans h1 h2⟩
theorem ltB_order : Order ltB where
 asym x y h := by
  rw [ltB_false]
  unfold ltB at h
  unfold leBt
  by_cases h1 : x.2.1 = y.2.1
  ·rw [if_pos h1] at h
   by_cases h2 : x.2.2 = y.2.2
   ·rw [if_pos h2, decide_eq_true_eq] at h; right; exact ⟨h1, .inr ⟨h2, by omega⟩⟩
   ·rw [if_neg h2, decide_eq_true_eq] at h; right; exact ⟨h1, .inl h⟩
  ·rw [if_neg h1, decide_eq_true_eq] at h; exact .inl h
 trans x y z h1 h2 := by rw [ltB_false] at *; exact h1.trans h2
/-- If each column of a is no later than that of b, a is no later. -/
theorem cmp_rows : ∀ {r s : List Int}, r.length = s.length → (∀ g, g < r.length → r.getD g 0 ≤ s.getD g 0) → cmpL r s ≤ 0 ∧ (cmpL r s = 0 → r = s)
 | [], [], _, _ => by simp [cmpL]
 | [], _ :: _, h, _ => by simp at h
 | _ :: _, [], h, _ => by simp at h
 | x :: r, y :: s, hl, h => by
  have h0 : x ≤ y := by simpa using h 0 (by simp)
  have := cmp_rows (r := r) (s := s) (by simpa using hl) (fun g hg => by simpa using h (g + 1) (by simpa using hg))
  unfold cmpL
  by_cases h1 : x < y
  ·rw [if_pos h1]; exact ⟨by omega, fun e => by omega⟩
  ·rw [if_neg h1, if_neg (by omega)]
   exact ⟨this.1, fun e => by rw [this.2 e, show x = y by omega]⟩
theorem cmp_cols {m : Nat} : ∀ {a b : List (List Int)}, a.length = b.length → (∀ r, r ∈ a → r.length = m) → (∀ r, r ∈ b → r.length = m) → (∀ g, g < m → cmpL (a.map fun r => r.getD g 0) (b.map fun r => r.getD g 0) ≤ 0) → cmpLL a b ≤ 0
 | [], [], _, _, _, _ => by simp [cmpLL]
 | [], _ :: _, h, _, _, _ => by simp at h
 | _ :: _, [], h, _, _, _ => by simp at h
 | r :: a, s :: b, hl, ha, hb, h => by
  have hr := ha r (by simp)
  have hs := hb s (by simp)
  have hle := cmp_rows (r := r) (s := s) (by omega) (fun g hg => by
   have := h g (by omega)
   simp only [List.map_cons, cmpL] at this
   split at this
   ·omega
   ·split at this
    ·omega
    ·omega)
  unfold cmpLL
  by_cases e : cmpL r s = 0
  ·rw [if_pos e]
   have := hle.2 e
   subst this
   refine cmp_cols (m := m) (by simpa using hl) (fun x hx => ha x (by simp [hx])) (fun x hx => hb x (by simp [hx])) fun g hg => ?_
   have := h g hg
   simp only [List.map_cons, cmpL] at this
   rw [if_neg (by omega), if_neg (by omega)] at this; exact this
  ·rw [if_neg e]; exact hle.1
def parcels : List Seller → List (List Int) → Int
 | s :: ls, r :: p => (if 0 < r.sum then s.parcel else 0) + parcels ls p
 | _, _ => 0
def goodsCost : List Seller → List (List Int) → Int
 | s :: ls, r :: p => dotL r s.price + goodsCost ls p
 | _, _ => 0
theorem costs_split : ∀ (ls : List Seller) (p : List (List Int)), costsB ls p = goodsCost ls p + parcels ls p
 | [], p => by simp [costsB, goodsCost, parcels]
 | _ :: _, [] => by simp [costsB, goodsCost, parcels]
 | s :: ls, r :: p => by simp only [costsB, rowCost, goodsCost, parcels, costs_split ls p]; omega
theorem dot_sum : ∀ (r q : List Int), r.length = q.length → dotL r q = ((List.range r.length).map fun g => r.getD g 0 * q.getD g 0).sum
 | [], [], _ => by simp [dotL]
 | [], _ :: _, h => by simp at h
 | _ :: _, [], h => by simp at h
 | n :: r, p :: q, h => by
  simp only [dotL, List.length_cons, List.range_succ_eq_map, List.map_cons, List.sum_cons, List.map_map]
  rw [dot_sum r q (by simpa using h)]; rfl
theorem goods_cols {m : Nat} : ∀ {ls : List Seller} {p : List (List Int)}, p.length = ls.length → (∀ r, r ∈ p → r.length = m) → (∀ s, s ∈ ls → s.price.length = m) →
  goodsCost ls p = ((List.range m).map fun g => dotL (p.map fun r => r.getD g 0) (pricesOf ls g)).sum
 | [], [], _, _, _ => by simp only [goodsCost, List.map_nil, dotL, pricesOf]; exact (sum_zero _).symm
 | [], _ :: _, h, _, _ => by simp at h
 | _ :: _, [], h, _, _ => by simp at h
 | s :: ls, r :: p, hl, hr, hs => by
  simp only [goodsCost]
  rw [goods_cols (m := m) (ls := ls) (p := p) (by simpa using hl) (fun x hx => hr x (by simp [hx])) (fun x hx => hs x (by simp [hx])), dot_sum r s.price (by rw [hr r (by simp), hs s (by simp)]), hr r (by simp), ← sum_add]
  rfl
theorem sum_pos_iff : ∀ {r : List Int}, (∀ x, x ∈ r → 0 ≤ x) → (0 < r.sum ↔ ∃ x, x ∈ r ∧ 0 < x)
 | [], _ => by simp
 | x :: r, h => by
  have h0 := h x (by simp)
  have hr := sum_nonneg' (c := r) (fun y hy => h y (by simp [hy]))
  have ih := sum_pos_iff (r := r) (fun y hy => h y (by simp [hy]))
  simp only [List.sum_cons, List.mem_cons]
  constructor
  ·intro hp
   by_cases hx : 0 < x
   ·exact ⟨x, .inl rfl, hx⟩
   ·obtain ⟨y, hy, h1⟩ := ih.1 (by omega); exact ⟨y, .inr hy, h1⟩
  ·rintro ⟨y, rfl | hy, h1⟩
   ·omega
   ·have := ih.2 ⟨y, hy, h1⟩; omega
/-- Fewer rows with pieces: no more parcels, no more sellers. -/
theorem par_le : ∀ {ls : List Seller} {a b : List (List Int)}, a.length = ls.length → b.length = ls.length → (∀ s, s ∈ ls → 0 ≤ s.parcel) → (∀ (i : Nat) (r t : List Int), a[i]? = some r → b[i]? = some t → 0 < r.sum → 0 < t.sum) → parcels ls a ≤ parcels ls b ∧ sellersOf a ≤ sellersOf b
 | [], [], [], _, _, _, _ => by simp
 | [], _ :: _, _, h, _, _, _ => by simp at h
 | [], [], _ :: _, _, h, _, _ => by simp at h
 | _ :: _, [], _, h, _, _, _ => by simp at h
 | _ :: _, _ :: _, [], _, h, _, _ => by simp at h
 | s :: ls, r :: a, t :: b, h1, h2, hp, h => by
  have ih := par_le (ls := ls) (a := a) (b := b) (by simpa using h1) (by simpa using h2) (fun x hx => hp x (by simp [hx])) (fun i r t hi ht => h (i + 1) r t (by simpa using hi) (by simpa using ht))
  have h0 := h 0 r t rfl rfl
  have hs := hp s (by simp)
  unfold sellersOf at *
  simp only [parcels, List.map_cons, List.sum_cons]
  by_cases hr : 0 < r.sum
  ·rw [if_pos hr, if_pos (h0 hr), if_pos hr, if_pos (h0 hr)]; omega
  ·rw [if_neg hr, if_neg hr]
   split <;> omega
theorem plan_row {ls : List Seller} {wants : List Int} {set : Nat} {r : List Int} (h : r ∈ planOf ls wants set) : r.length = wants.length := by
 unfold planOf at h
 obtain ⟨i, _, rfl⟩ := List.mem_map.1 h
 simp
/-- The set of sellers from which a purchase takes anything. -/
def suppN (p : List (List Int)) : Nat → Nat
 | 0 => 0
 | n + 1 => suppN p n + (if 0 < (p.getD n []).sum then 2 ^ n else 0)
theorem supp_lt (p : List (List Int)) : ∀ n, suppN p n < 2 ^ n
 | 0 => by simp [suppN]
 | n + 1 => by have := supp_lt p n; simp only [suppN, Nat.pow_succ]; split <;> omega
theorem supp_bit (p : List (List Int)) : ∀ (n i : Nat), (suppN p n).testBit i = (decide (i < n) && decide (0 < (p.getD i []).sum))
 | 0, i => by simp [suppN]
 | n + 1, i => by
  have hlt := supp_lt p n
  have ih := supp_bit p n i
  simp only [suppN]
  by_cases hs : 0 < (p.getD n []).sum
  ·rw [if_pos hs]
   by_cases e : i = n
   ·subst e
    rw [Nat.add_comm, Nat.testBit_two_pow_add_eq, ih, decide_eq_true hs, decide_eq_true (show i < i + 1 by omega), decide_eq_false (show ¬ i < i by omega)]; rfl
   ·rcases Nat.lt_or_ge i n with h | h
    ·rw [Nat.add_comm, Nat.testBit_two_pow_add_gt h, ih]
     simp [h, show i < n + 1 by omega]
    ·have h2 : suppN p n + 2 ^ n < 2 ^ i := Nat.lt_of_lt_of_le (by rw [Nat.pow_succ]; omega) (Nat.pow_le_pow_right (by omega) (show n + 1 ≤ i by omega))
     rw [Nat.testBit_lt_two_pow h2]
     simp [show ¬ i < n + 1 by omega]
  ·rw [if_neg hs, Nat.add_zero, ih]
   by_cases e : i = n
   ·subst e; rw [decide_eq_false hs]; simp
   ·rw [show (decide (i < n + 1)) = decide (i < n) from decide_eq_decide.2 (by omega)]
/-- From the sellers that a purchase is from: it has one there, and that one is no worse. -/
theorem from_best {ls : List Seller} {wants : List Int} (hS : SellersB ls wants) {q : List (List Int)} (hq : PurchaseB ls wants q) :
  ∃ p, fromB ls wants (suppN q ls.length) = some p ∧ leBt (p, costsB ls p, sellersOf p) (q, costsB ls q, sellersOf q) := by
 have hql := hq.len
 have hcol : ∀ g, g < wants.length → (colB ls (suppN q ls.length) g (wants.getD g 0)).2 = 0 ∧ leCol (pricesOf ls g) (colB ls (suppN q ls.length) g (wants.getD g 0)).1 (q.map fun r => r.getD g 0) := fun g hg => by
  obtain ⟨o1, o2, o3⟩ := order_spec (pricesOf ls g) ls.length (suppN q ls.length)
  have hrow : ∀ k, k < ls.length → ∃ r, q[k]? = some r ∧ (q.map fun r => r.getD g 0).getD k 0 = r.getD g 0 := fun k hk => by
   refine ⟨q[k], by simp, ?_⟩
   rw [List.getD_eq_getElem?_getD, List.getElem?_map, List.getElem?_eq_getElem (by omega)]; rfl
  have hout : ∀ k, k < ls.length → k ∉ orderL (pricesOf ls g) ls.length (suppN q ls.length) → (q.map fun r => r.getD g 0).getD k 0 = 0 := fun k hk hn => by
   obtain ⟨r, hr, he⟩ := hrow k hk
   rw [he]
   have hb : (suppN q ls.length).testBit k = false := by
    cases hb : (suppN q ls.length).testBit k with
    | false => rfl
    | true => exact (hn ((o3 k).2 ⟨hk, hb⟩)).elim
   rw [supp_bit] at hb
   have hrs : ¬ 0 < r.sum := by
    have e : q.getD k [] = r := by rw [List.getD_eq_getElem?_getD, hr]; rfl
    rw [e] at hb; simp [hk] at hb; omega
   have hrp := purchase_row hq (List.mem_of_getElem? hr)
   have hz := all_zero hrp.2 (by have := sum_nonneg' hrp.2; omega)
   exact hz _ (getD_mem (by omega))
  refine greedy_best (S := stocksOf ls g) (P := pricesOf ls g) _ _ _ _ o1 o2 (fun i hi => by simp; exact order_lt hi) (by simp [hql]) (by simp [pricesOf]) (fun k hk => ?_) (fun k hk => ?_) ?_
  ·rw [rep_get]
   by_cases hkl : k < ls.length
   ·exact hout k hkl hk
   ·rw [List.getD_eq_getElem?_getD, List.getElem?_eq_none (by simp; omega)]; rfl
  ·have hkl := order_lt hk
   obtain ⟨r, hr, he⟩ := hrow k hkl
   have := (hq.row k ls[k] r (by simp) hr).2 g hg
   rw [he]
   unfold stocksOf
   rw [List.getD_eq_getElem?_getD (l := List.map _ _), List.getElem?_map, List.getElem?_eq_getElem hkl]; exact this
  ·rw [sum_part (l := List.range ls.length) (f := fun k => (q.map fun r => r.getD g 0).getD k 0) o1 List.nodup_range (fun k hk => by simpa using order_lt hk) (fun k hk hn => hout k (by simpa using hk) hn)]
   have := sum_range_list (q.map fun r => r.getD g 0)
   rw [List.length_map, hql] at this
   rw [this]; exact hq.all g hg
 have hfrom : fromB ls wants (suppN q ls.length) = some (planOf ls wants (suppN q ls.length)) := by
  unfold fromB
  rw [if_pos]
  refine List.all_eq_true.2 fun g hg => ?_
  have := (hcol g (by simpa using hg)).1
  rw [decide_eq_true_eq]; omega
 refine ⟨_, hfrom, ?_⟩
 have hp := from_purchase hS hfrom
 generalize hpp : planOf ls wants (suppN q ls.length) = p at *
 have hcols : ∀ g, g < wants.length → leCol (pricesOf ls g) (p.map fun r => r.getD g 0) (q.map fun r => r.getD g 0) := fun g hg => by
  rw [← hpp, cols_get hg]; exact (hcol g hg).2
 have hpr : ∀ s, s ∈ ls → s.price.length = wants.length := fun s hs => (hS.one s hs).2.2.1
 have g1 := goods_cols (m := wants.length) hp.len (fun r hr => (purchase_row hp hr).1) hpr
 have g2 := goods_cols (m := wants.length) hq.len (fun r hr => (purchase_row hq hr).1) hpr
 have hle : ∀ g, g ∈ List.range wants.length → dotL (p.map fun r => r.getD g 0) (pricesOf ls g) ≤ dotL (q.map fun r => r.getD g 0) (pricesOf ls g) := fun g hg => by
  rcases hcols g (by simpa using hg) with h | h <;> omega
 have hgl : goodsCost ls p ≤ goodsCost ls q := by rw [g1, g2]; exact sum_le hle
 have hpar := par_le (ls := ls) hp.len hq.len (fun s hs => (hS.one s hs).1.1) (fun i r t hi ht hs => by
  have hil := (List.getElem?_eq_some_iff.1 hi).1
  rw [hp.len] at hil
  have hrp := purchase_row hp (List.mem_of_getElem? hi)
  obtain ⟨x, hx, hx0⟩ := (sum_pos_iff hrp.2).1 hs
  obtain ⟨g, hg⟩ := List.getElem?_of_mem hx
  have hgl := (List.getElem?_eq_some_iff.1 hg).1
  have hgw : g < wants.length := by omega
  cases hb : (suppN q ls.length).testBit i with
  | true =>
   rw [supp_bit] at hb
   have e : q.getD i [] = t := by rw [List.getD_eq_getElem?_getD, ht]; rfl
   rw [e] at hb; simp at hb; exact hb.2
  | false =>
   have h0 := ((col_spec hS (suppN q ls.length) g).2.1 i hil).2.2 hb
   have h1 := congrArg (fun l : List Int => l.getD i 0) (cols_get (ls := ls) (wants := wants) (set := suppN q ls.length) hgw)
   rw [hpp, h0, List.getD_eq_getElem?_getD, List.getElem?_map, hi] at h1
   simp only [Option.map_some, Option.getD_some, List.getD_eq_getElem?_getD, hg] at h1
   omega)
 have c1 := costs_split ls p
 have c2 := costs_split ls q
 unfold leBt
 simp only
 by_cases hlt : costsB ls p < costsB ls q
 ·exact .inl hlt
 ·refine .inr ⟨by omega, ?_⟩
  by_cases hsl : sellersOf p < sellersOf q
  ·exact .inl hsl
  ·refine .inr ⟨by omega, ?_⟩
   refine cmp_cols (m := wants.length) (by rw [hp.len, hq.len]) (fun r hr => (purchase_row hp hr).1) (fun r hr => (purchase_row hq hr).1) fun g hg => ?_
   have hgeq : goodsCost ls p = goodsCost ls q := by omega
   rcases hcols g hg with h | h
   ·exfalso
    have : goodsCost ls p < goodsCost ls q := by
     rw [g1, g2]
     have key : ∀ l : List Nat, g ∈ l → (∀ k, k ∈ l → dotL (p.map fun r => r.getD k 0) (pricesOf ls k) ≤ dotL (q.map fun r => r.getD k 0) (pricesOf ls k)) → (l.map fun g => dotL (p.map fun r => r.getD g 0) (pricesOf ls g)).sum < (l.map fun g => dotL (q.map fun r => r.getD g 0) (pricesOf ls g)).sum := fun l => by
      induction l with
      | nil => intro h; simp at h
      | cons a l ih =>
       intro hm hk
       simp only [List.map_cons, List.sum_cons]
       have ha := hk a (by simp)
       have hl := sum_le (l := l) (fun k hk' => hk k (by simp [hk']))
       by_cases e : g = a
       ·subst e; omega
       ·have := ih (by simpa [e] using hm) (fun k hk' => hk k (by simp [hk'])); omega
     exact key _ (by simpa using hg) hle
    omega
   ·exact h.2
theorem bought_mem {ls : List Seller} {wants : List Int} {x : Bought} : x ∈ boughtL ls wants ↔ ∃ set, set < 2 ^ ls.length ∧ ∃ p, fromB ls wants set = some p ∧ x = (p, costsB ls p, sellersOf p) := by
 unfold boughtL boughtOf
 simp only [List.mem_filterMap, List.mem_range, Option.map_eq_some_iff]
 constructor
 ·rintro ⟨s, h1, p, h2, h3⟩; exact ⟨s, h1, p, h2, h3.symm⟩
 ·rintro ⟨s, h1, p, h2, h3⟩; exact ⟨s, h1, p, h2, h3.symm⟩
/-- The best purchase is one; none is better. -/
theorem buy_best {ls : List Seller} {wants : List Int} (hS : SellersB ls wants) {q : List (List Int)} (hq : PurchaseB ls wants q) :
  ∃ x, buyB ls wants = some x ∧ PurchaseB ls wants x.1 ∧ x.2.1 = costsB ls x.1 ∧ x.2.2 = sellersOf x.1 ∧ leBt x (q, costsB ls q, sellersOf q) := by
 obtain ⟨p, hp, hle⟩ := from_best hS hq
 have hm : (p, costsB ls p, sellersOf p) ∈ boughtL ls wants := bought_mem.2 ⟨_, supp_lt q ls.length, p, hp, rfl⟩
 obtain ⟨x, hx, hxm, hall⟩ := best_of ltB_order (l := boughtL ls wants) (fun e => by rw [e] at hm; simp at hm)
 obtain ⟨set, _, r, hr, rfl⟩ := bought_mem.1 hxm
 exact ⟨_, hx, from_purchase hS hr, rfl, rfl, (ltB_false.1 (hall _ hm)).trans hle⟩
theorem buy_some {ls : List Seller} {wants : List Int} (hS : SellersB ls wants) {x : Bought} (h : buyB ls wants = some x) : PurchaseB ls wants x.1 ∧ x.2.1 = costsB ls x.1 ∧ x.2.2 = sellersOf x.1 := by
 by_cases hne : boughtL ls wants = []
 ·unfold buyB at h; rw [hne] at h; simp [bestOf] at h
 ·obtain ⟨y, hy, hym, _⟩ := best_of ltB_order hne
  unfold buyB at h
  rw [hy] at h
  obtain ⟨set, _, r, hr, rfl⟩ := bought_mem.1 hym
  have : x = _ := (Option.some.inj h).symm
  subst this
  exact ⟨from_purchase hS hr, rfl, rfl⟩
def wantB (ys : List (Int × Int × Int × Int)) (l : List Int) (g : Int) : Int := ((ys.filter fun y => l.getD y.1.toNat 0 == g).map fun y => y.2.2.2).sum
theorem wantTo_all (ys : List (Int × Int × Int × Int)) (l : List Int) (g : Int) : wantTo ys l ys.length g = wantB ys l g := by unfold wantTo wantB; rw [List.take_length]
theorem spanOf_one (v : Int) : spanOf [v] = (v, v) := rfl
theorem rev_ind' {α : Type} {P : List α → Prop} (l : List α) (h0 : P []) (h1 : ∀ l x, P l → P (l ++ [x])) : P l := by
 rw [← List.reverse_reverse l]
 induction l.reverse with
 | nil => exact h0
 | cons x l ih => rw [List.reverse_cons]; exact h1 _ _ ih
theorem spanOf_in {l : List Int} : ∀ {v : Int}, v ∈ l → (spanOf l).1 ≤ v ∧ v ≤ (spanOf l).2 := by
 induction l using rev_ind' with
 | h0 => intro v h; simp at h
 | h1 l x ih =>
  intro v h
  by_cases hl : l = []
  ·subst hl; simp at h; subst h; simp [spanOf]
  ·rw [spanOf_push hl]
   rcases List.mem_append.1 h with h | h
   ·have := ih h
    simp only
    omega
   ·simp at h; subst h; simp only; omega
theorem spanOf_bd {l : List Int} {B : Int} (hB : 0 ≤ B) (h : ∀ v, v ∈ l → 0 ≤ v ∧ v ≤ B) : 0 ≤ (spanOf l).1 ∧ (spanOf l).1 ≤ B ∧ 0 ≤ (spanOf l).2 ∧ (spanOf l).2 ≤ B := by
 induction l using rev_ind' with
 | h0 => simp [spanOf]; omega
 | h1 l x ih =>
  have hx := h x (by simp)
  by_cases hl : l = []
  ·subst hl; simp [spanOf]; omega
  ·have := ih (fun v hv => h v (by simp [hv]))
   rw [spanOf_push hl]
   simp only
   omega
theorem planCol_row {ls : List Seller} {wants : List Int} {set g : Nat} {c r : List Int} {i : Nat} (h : (planCol ls wants set g c)[i]? = some r) : r.length = wants.length := by
 have hi := (List.getElem?_eq_some_iff.1 h).1
 rw [planCol_len] at hi
 rw [planCol_at hi] at h
 cases h; simp
end Go.Proofs.YtpebafaigldldaaGreatDoor
