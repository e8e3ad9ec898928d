/- Sellers and purchases, in plain Lean: the cheapest first is best. -/
import Derived.Test.YtokananogogjaaaGreatDoorOq
import Derived.Sort.LotA
namespace Go.Proofs.YtokananogogjaaaGreatDoor
/-! ### Sellers and purchases -/
structure Seller where
 parcel : Int
 stock : List Int
 price : List Int
def badL (n : Nat) (most : Int) (x : List Int) : Bool := decide ((x.length : Int) ≠ n) || x.any (fun v => !inB v 0 most)
def badSeller (n : Nat) (s : Seller) : Bool := !inB s.parcel 0 1000 || badL n 100 s.stock || badL n 1000 s.price
def isWantedB (wants : List Int) : Bool := inB wants.length 1 5 && !(wants.any fun v => !inB v 0 400)
def isSellersB (n : Nat) (ls : List Seller) : Bool := inB ls.length 1 4 && !(ls.any (badSeller n))
structure SellersB (ls : List Seller) (wants : List Int) : Prop where
 l1 : 1 ≤ ls.length
 l4 : ls.length ≤ 4
 w1 : 1 ≤ wants.length
 w5 : wants.length ≤ 5
 want : ∀ v, v ∈ wants → 0 ≤ v ∧ v ≤ 400
 one : ∀ s, s ∈ ls → (0 ≤ s.parcel ∧ s.parcel ≤ 1000) ∧ s.stock.length = wants.length ∧ s.price.length = wants.length ∧ (∀ v, v ∈ s.stock → 0 ≤ v ∧ v ≤ 100) ∧ (∀ v, v ∈ s.price → 0 ≤ v ∧ v ≤ 1000)
theorem badL_iff {n : Nat} {most : Int} {x : List Int} : badL n most x = false ↔ x.length = n ∧ ∀ v, v ∈ x → 0 ≤ v ∧ v ≤ most := by
 unfold badL
 rw [Bool.or_eq_false_iff, decide_eq_false_iff_not, List.any_eq_false]
 constructor
 ·rintro ⟨h1, h2⟩
  refine ⟨by omega, fun v hv => ?_⟩
  have := h2 v hv
  rw [Bool.not_eq_true', Bool.not_eq_false, inB_iff] at this; exact this
 ·rintro ⟨h1, h2⟩
  refine ⟨by omega, fun v hv => ?_⟩
  rw [Bool.not_eq_true', Bool.not_eq_false, inB_iff]; exact h2 v hv
theorem sellersB_iff {ls : List Seller} {wants : List Int} : (isWantedB wants && isSellersB wants.length ls) = true ↔ SellersB ls wants := by
 unfold isWantedB isSellersB
 simp only [Bool.and_eq_true, inB_iff, Bool.not_eq_true', List.any_eq_false]
 constructor
 ·rintro ⟨⟨h1, h2⟩, h3, h4⟩
  refine ⟨by omega, by omega, by omega, by omega, fun v hv => ?_, fun s hs => ?_⟩
  ·have := h2 v hv
   rw [Bool.not_eq_false, inB_iff] at this; exact this
  ·have := h4 s hs
   unfold badSeller at this
   rw [Bool.not_eq_true, Bool.or_eq_false_iff, Bool.or_eq_false_iff, Bool.not_eq_false', inB_iff, badL_iff, badL_iff] at this
   exact ⟨this.1.1, this.1.2.1, this.2.1, this.1.2.2, this.2.2⟩
 ·intro h
  refine ⟨⟨by have := h.w1; have := h.w5; omega, fun v hv => ?_⟩, by have := h.l1; have := h.l4; omega, fun s hs => ?_⟩
  ·rw [Bool.not_eq_false, inB_iff]; exact h.want v hv
  ·have := h.one s hs
   unfold badSeller
   rw [Bool.not_eq_true, Bool.or_eq_false_iff, Bool.or_eq_false_iff, Bool.not_eq_false', inB_iff, badL_iff, badL_iff]
   exact ⟨⟨this.1, this.2.1, this.2.2.2.1⟩, this.2.2.1, this.2.2.2.2⟩
/-- What a row costs, without its parcel. -/
def dotL : List Int → List Int → Int
 | n :: r, p :: q => n * p + dotL r q
 | _, _ => 0
def rowCost (s : Seller) (r : List Int) : Int := dotL r s.price + (if 0 < r.sum then s.parcel else 0)
def costsB : List Seller → List (List Int) → Int
 | s :: ls, r :: p => rowCost s r + costsB ls p
 | _, _ => 0
/-- Pieces that are not there. -/
def overL : List Int → List Int → Bool
 | n :: r, s :: t => !inB n 0 s || overL r t
 | _, _ => false
def subL : List Int → List Int → List Int
 | a :: l, b :: m => (a - b) :: subL l m
 | l, _ => l
def badRows (n : Nat) : List Seller → List (List Int) → Bool
 | s :: ls, r :: p => decide ((r.length : Int) ≠ n) || overL r s.stock || badRows n ls p
 | _, _ => false
def leftOf (wants : List Int) (p : List (List Int)) : List Int := p.foldl subL wants
def isPurchaseB (ls : List Seller) (wants : List Int) (p : List (List Int)) : Bool :=
 decide ((p.length : Int) = ls.length) && !(badRows wants.length ls p) && (leftOf wants p).all (fun n => n == 0)
structure PurchaseB (ls : List Seller) (wants : List Int) (p : List (List Int)) : Prop where
 len : p.length = ls.length
 row : ∀ (i : Nat) (s : Seller) (r : List Int), ls[i]? = some s → p[i]? = some r → r.length = wants.length ∧ ∀ g, g < wants.length → 0 ≤ r.getD g 0 ∧ r.getD g 0 ≤ s.stock.getD g 0
 all : ∀ g, g < wants.length → (p.map fun r => r.getD g 0).sum = wants.getD g 0
theorem overL_iff : ∀ {r t : List Int}, r.length = t.length → (overL r t = false ↔ ∀ g, g < t.length → 0 ≤ r.getD g 0 ∧ r.getD g 0 ≤ t.getD g 0)
 | [], [], _ => by simp [overL]
 | n :: r, s :: t, h => by
  unfold overL
  rw [Bool.or_eq_false_iff, Bool.not_eq_false', inB_iff, overL_iff (by simpa using h)]
  constructor
  ·rintro ⟨h1, h2⟩ g hg
   match g, hg with
   | 0, _ => simpa using h1
   | g + 1, hg => simpa using h2 g (by simpa using hg)
  ·intro h1
   refine ⟨by simpa using h1 0 (by simp), fun g hg => by simpa using h1 (g + 1) (by simpa using hg)⟩
theorem badRows_iff {n : Nat} : ∀ {ls : List Seller} {p : List (List Int)}, p.length = ls.length → (∀ s, s ∈ ls → s.stock.length = n) → (badRows n ls p = false ↔ ∀ (i : Nat) (s : Seller) (r : List Int), ls[i]? = some s → p[i]? = some r → r.length = n ∧ ∀ g, g < n → 0 ≤ r.getD g 0 ∧ r.getD g 0 ≤ s.stock.getD g 0)
 | [], [], _, _ => by simp [badRows]
 | s :: ls, r :: p, h, hs => by
  have h0 := hs s (by simp)
  unfold badRows
  rw [Bool.or_eq_false_iff, Bool.or_eq_false_iff, decide_eq_false_iff_not, badRows_iff (by simpa using h) (fun x hx => hs x (by simp [hx]))]
  constructor
  ·rintro ⟨⟨h1, h2⟩, h3⟩ i s' r' hi hr
   have hl : r.length = n := by omega
   match i, hi, hr with
   | 0, hi, hr =>
    simp at hi hr; subst hi hr
    refine ⟨hl, fun g hg => (overL_iff (by omega)).1 h2 g (by omega)⟩
   | i + 1, hi, hr => exact h3 i s' r' (by simpa using hi) (by simpa using hr)
  ·intro h1
   have h2 := h1 0 s r rfl rfl
   exact ⟨⟨by omega, (overL_iff (by omega)).2 fun g hg => h2.2 g (by omega)⟩, fun i s' r' hi hr => h1 (i + 1) s' r' (by simpa using hi) (by simpa using hr)⟩
theorem subL_len : ∀ (a b : List Int), (subL a b).length = a.length
 | [], _ => by simp [subL]
 | _ :: _, [] => by simp [subL]
 | a :: l, b :: m => by simp [subL, subL_len l m]
theorem subL_at : ∀ {a b : List Int}, b.length = a.length → ∀ g, (subL a b).getD g 0 = a.getD g 0 - b.getD g 0
 | [], [], _, g => by simp [subL]
 | a :: l, b :: m, h, 0 => by simp [subL]
 | a :: l, b :: m, h, g + 1 => by simpa [subL] using subL_at (a := l) (b := m) (by simpa using h) g
theorem left_len : ∀ (p : List (List Int)) (wants : List Int), (leftOf wants p).length = wants.length
 | [], _ => rfl
 | r :: p, w => by show (leftOf (subL w r) p).length = _; rw [left_len p, subL_len]
theorem left_at : ∀ (p : List (List Int)) (wants : List Int), (∀ r, r ∈ p → r.length = wants.length) → ∀ g, (leftOf wants p).getD g 0 = wants.getD g 0 - (p.map fun r => r.getD g 0).sum
 | [], w, _, g => by simp [leftOf]
 | r :: p, w, h, g => by
  show (leftOf (subL w r) p).getD g 0 = _
  rw [left_at p (subL w r) (fun x hx => by rw [subL_len]; exact h x (by simp [hx])), subL_at (h r (by simp))]
  simp only [List.map_cons, List.sum_cons]; omega
theorem all_zero_iff {l : List Int} : (l.all fun n => n == 0) = true ↔ ∀ g, g < l.length → l.getD g 0 = 0 := by
 rw [List.all_eq_true]
 constructor
 ·intro h g hg
  have := h _ (getD_mem hg)
  simpa using this
 ·intro h x hx
  obtain ⟨g, hg⟩ := List.getElem?_of_mem hx
  have := h g (List.getElem?_eq_some_iff.1 hg).1
  rw [List.getD_eq_getElem?_getD, hg] at this
  simpa using this
theorem purchase_iff {ls : List Seller} {wants : List Int} (hS : SellersB ls wants) {p : List (List Int)} : isPurchaseB ls wants p = true ↔ PurchaseB ls wants p := by
 unfold isPurchaseB
 rw [Bool.and_eq_true, Bool.and_eq_true, decide_eq_true_eq, Bool.not_eq_true', all_zero_iff, left_len]
 constructor
 ·rintro ⟨⟨h1, h2⟩, h3⟩
  have hl : p.length = ls.length := by omega
  have hr := (badRows_iff hl (fun s hs => (hS.one s hs).2.1)).1 h2
  refine ⟨hl, hr, fun g hg => ?_⟩
  have := h3 g hg
  rw [left_at p wants (fun r hr' => ?_) g] at this
  ·omega
  ·obtain ⟨i, hi⟩ := List.getElem?_of_mem hr'
   have hil := (List.getElem?_eq_some_iff.1 hi).1
   exact (hr i ls[i] r (by simp) hi).1
 ·intro h
  refine ⟨⟨by have := h.len; omega, (badRows_iff h.len (fun s hs => (hS.one s hs).2.1)).2 h.row⟩, fun g hg => ?_⟩
  rw [left_at p wants (fun r hr' => ?_) g, h.all g hg]
  ·omega
  ·obtain ⟨i, hi⟩ := List.getElem?_of_mem hr'
   have hil := (List.getElem?_eq_some_iff.1 hi).1
   exact (h.row i (ls[i]'(by have := h.len; omega)) r (by simp) hi).1
/-! ### One of the goods: the cheapest first -/
def greedyL (S : List Int) : List Nat → Int → List Int → List Int × Int
 | [], left, c => (c, left)
 | i :: o, left, c => greedyL S o (left - min left (S.getD i 0)) (c.set i (min left (S.getD i 0)))
theorem greedy_len (S : List Int) : ∀ (o : List Nat) (left : Int) (c : List Int), (greedyL S o left c).1.length = c.length
 | [], _, _ => rfl
 | i :: o, left, c => by unfold greedyL; rw [greedy_len S o]; simp
theorem getD_set {c : List Int} {i j : Nat} {v : Int} (hi : i < c.length) : (c.set i v).getD j 0 = if i = j then v else c.getD j 0 := by
 by_cases e : i = j
 ·subst e; rw [if_pos rfl, List.getD_eq_getElem?_getD, List.getElem?_set_self hi]; rfl
 ·rw [if_neg e, List.getD_eq_getElem?_getD, List.getElem?_set_ne e, List.getD_eq_getElem?_getD]
theorem list_ext {a b : List Int} (h : a.length = b.length) (k : ∀ j, j < a.length → a.getD j 0 = b.getD j 0) : a = b := by
 apply List.ext_getElem?
 intro j
 by_cases hj : j < a.length
 ·have := k j hj
  rw [List.getD_eq_getElem?_getD, List.getD_eq_getElem?_getD, List.getElem?_eq_getElem hj, List.getElem?_eq_getElem (by omega)] at this
  rw [List.getElem?_eq_getElem hj, List.getElem?_eq_getElem (by omega)]; simpa using this
 ·rw [List.getElem?_eq_none (by omega), List.getElem?_eq_none (by omega)]
/-- i comes before j. -/
def sooner (P : List Int) (i j : Nat) : Prop := P.getD i 0 < P.getD j 0 ∨ P.getD i 0 = P.getD j 0 ∧ j < i
theorem sum_nat_congr {f g : Nat → Int} {o : List Nat} (h : ∀ x, x ∈ o → f x = g x) : (o.map f).sum = (o.map g).sum := by
 congr 1; exact List.map_congr_left h
/-! ### A stable sort of few -/
def insAt (P : List Int) (x : Nat) : List Nat → List Nat
 | [] => [x]
 | y :: l => if P.getD x 0 < P.getD y 0 then x :: y :: l else y :: insAt P x l
def isort (P : List Int) (l : List Nat) : List Nat := l.foldl (fun acc x => insAt P x acc) []
theorem insAt_mem {P : List Int} {x y : Nat} : ∀ {l : List Nat}, y ∈ insAt P x l ↔ y = x ∨ y ∈ l
 | [] => by simp [insAt]
 | z :: l => by
  unfold insAt
  split
  ·simp
  ·simp only [List.mem_cons, insAt_mem (l := l)]
   constructor <;> (rintro (h | h | h) <;> simp [h])
theorem insAt_nodup {P : List Int} {x : Nat} : ∀ {l : List Nat}, l.Nodup → x ∉ l → (insAt P x l).Nodup
 | [], _, _ => by simp [insAt]
 | z :: l, h, hx => by
  rw [List.nodup_cons] at h
  unfold insAt
  split
  ·rw [List.nodup_cons, List.nodup_cons]; exact ⟨hx, h⟩
  ·rw [List.nodup_cons]
   refine ⟨fun hz => ?_, insAt_nodup h.2 (fun e => hx (by simp [e]))⟩
   rcases insAt_mem.1 hz with e | hz
   ·exact hx (by simp [e])
   ·exact h.1 hz
theorem insAt_first {P : List Int} {x : Nat} : ∀ {l : List Nat}, l.Pairwise (sooner P) → (∀ y, y ∈ l → x < y) → (insAt P x l).Pairwise (sooner P)
 | [], _, _ => by simp [insAt]
 | z :: l, h, hx => by
  rw [List.pairwise_cons] at h
  unfold insAt
  split
  ·rename_i hlt
   rw [List.pairwise_cons, List.pairwise_cons]
   refine ⟨fun y hy => ?_, h.1, h.2⟩
   rcases List.mem_cons.1 hy with rfl | hy
   ·exact .inl hlt
   ·rcases h.1 y hy with h | ⟨h, _⟩
    ·left; omega
    ·left; omega
  ·rename_i hlt
   rw [List.pairwise_cons]
   refine ⟨fun y hy => ?_, insAt_first h.2 (fun y hy => hx y (by simp [hy]))⟩
   rcases insAt_mem.1 hy with rfl | hy
   ·have := hx z (by simp)
    unfold sooner
    by_cases e : P.getD z 0 = P.getD y 0
    ·exact .inr ⟨e, this⟩
    ·left; omega
   ·exact h.1 y hy
theorem isort_spec (P : List Int) : ∀ (l acc : List Nat), acc.Nodup → acc.Pairwise (sooner P) → l.Pairwise (· > ·) → (∀ x, x ∈ l → ∀ y, y ∈ acc → x < y) →
  (l.foldl (fun acc x => insAt P x acc) acc).Nodup ∧ (l.foldl (fun acc x => insAt P x acc) acc).Pairwise (sooner P) ∧ ∀ x, x ∈ l.foldl (fun acc x => insAt P x acc) acc ↔ x ∈ l ∨ x ∈ acc
 | [], acc, h1, h2, _, _ => ⟨h1, h2, by simp⟩
 | a :: l, acc, h1, h2, h3, h4 => by
  rw [List.pairwise_cons] at h3
  have hn : a ∉ acc := fun h => by have := h4 a (by simp) a h; omega
  obtain ⟨k1, k2, k3⟩ := isort_spec P l (insAt P a acc) (insAt_nodup h1 hn) (insAt_first h2 (fun y hy => h4 a (by simp) y hy)) h3.2 (fun x hx y hy => by
   rcases insAt_mem.1 hy with rfl | hy
   ·exact h3.1 x hx
   ·exact h4 x (by simp [hx]) y hy)
  refine ⟨k1, k2, fun x => ?_⟩
  rw [List.foldl_cons, k3, insAt_mem, List.mem_cons]
  constructor
  ·rintro (h | h | h) <;> simp [h]
  ·rintro ((h | h) | h) <;> simp [h]
/-- The sellers of a set, the cheapest first; of equal ones, the last. -/
def setL (n set : Nat) : List Nat := (List.range n).filter fun i => set.testBit i
def orderL (P : List Int) (n set : Nat) : List Nat := isort P (setL n set).reverse
theorem order_spec (P : List Int) (n set : Nat) : (orderL P n set).Nodup ∧ (orderL P n set).Pairwise (sooner P) ∧ ∀ x, x ∈ orderL P n set ↔ x < n ∧ set.testBit x = true := by
 have h := isort_spec P (setL n set).reverse [] (by simp) (by simp) (by
  rw [List.pairwise_reverse]
  unfold setL
  exact (List.pairwise_lt_range.filter _).imp fun h => h) (by simp)
 refine ⟨h.1, h.2.1, fun x => ?_⟩
 unfold orderL isort
 rw [h.2.2]
 simp [setL]
/-! ### The purchase from a set -/
def stocksOf (ls : List Seller) (g : Nat) : List Int := ls.map fun s => s.stock.getD g 0
def pricesOf (ls : List Seller) (g : Nat) : List Int := ls.map fun s => s.price.getD g 0
def colB (ls : List Seller) (set g : Nat) (left : Int) : List Int × Int := greedyL (stocksOf ls g) (orderL (pricesOf ls g) ls.length set) left (List.replicate ls.length 0)
def planOf (ls : List Seller) (wants : List Int) (set : Nat) : List (List Int) := (List.range ls.length).map fun i => (List.range wants.length).map fun g => (colB ls set g (wants.getD g 0)).1.getD i 0
def fromB (ls : List Seller) (wants : List Int) (set : Nat) : Option (List (List Int)) :=
 if (List.range wants.length).all fun g => decide ((colB ls set g (wants.getD g 0)).2 ≤ 0) then some (planOf ls wants set) else none
def sellersOf (p : List (List Int)) : Int := (p.map fun r => if 0 < r.sum then (1 : Int) else 0).sum
abbrev Bought := List (List Int) × Int × Int
def cmpLL : List (List Int) → List (List Int) → Int
 | [], [] => 0
 | [], _ :: _ => -1
 | _ :: _, [] => 1
 | x :: a, y :: b => if cmpL x y = 0 then cmpLL a b else cmpL x y
def boughtOf (ls : List Seller) (wants : List Int) (set : Nat) : Option Bought := (fromB ls wants set).map fun p => (p, costsB ls p, sellersOf p)
def ltB (a b : Bought) : Bool := if a.2.1 = b.2.1 then (if a.2.2 = b.2.2 then decide (cmpLL a.1 b.1 < 0) else decide (a.2.2 < b.2.2)) else decide (a.2.1 < b.2.1)
def boughtL (ls : List Seller) (wants : List Int) : List Bought := (List.range (2 ^ ls.length)).filterMap (boughtOf ls wants)
def buyB (ls : List Seller) (wants : List Int) : Option Bought := bestOf ltB (boughtL ls wants)
/-! ### Lists of lists compared -/
/-! ### What purchases cost -/
/-! ### The purchase from a set is one, and the best from it -/
theorem cols_get {ls : List Seller} {wants : List Int} {set g : Nat} (hg : g < wants.length) : ((planOf ls wants set).map fun r => r.getD g 0) = (colB ls set g (wants.getD g 0)).1 := by
 have hl : (colB ls set g (wants.getD g 0)).1.length = ls.length := by unfold colB; rw [greedy_len]; simp
 refine list_ext (by rw [hl]; simp [planOf]) fun j hj => ?_
 have hj' : j < ls.length := by simpa [planOf] using hj
 simp [planOf, List.getD_eq_getElem?_getD, hj', hg]
theorem plan_len (ls : List Seller) (wants : List Int) (set : Nat) : (planOf ls wants set).length = ls.length := by simp [planOf]
theorem greedy_other (S : List Int) : ∀ (o : List Nat) (left : Int) (c : List Int) (k : Nat), (∀ i, i ∈ o → i < c.length) → k ∉ o → (greedyL S o left c).1.getD k 0 = c.getD k 0
 | [], _, _, _, _, _ => rfl
 | i :: o, left, c, k, hi, hk => by
  unfold greedyL
  rw [greedy_other S o _ _ k (fun j hj => by simp; exact hi j (by simp [hj])) (fun h => hk (by simp [h])), getD_set (hi i (by simp)), if_neg (fun e => hk (by simp [e]))]
theorem greedy_bd (S : List Int) : ∀ (o : List Nat) (left : Int) (c : List Int), o.Nodup → (∀ i, i ∈ o → i < c.length) → 0 ≤ left → (∀ i, 0 ≤ S.getD i 0) →
  0 ≤ (greedyL S o left c).2 ∧ (∀ k, k ∈ o → 0 ≤ (greedyL S o left c).1.getD k 0 ∧ (greedyL S o left c).1.getD k 0 ≤ S.getD k 0) ∧ (o.map fun k => (greedyL S o left c).1.getD k 0).sum + (greedyL S o left c).2 = left
 | [], left, c, _, _, h, _ => by simp [greedyL]; exact h
 | i :: o, left, c, hd, hi, h, hS => by
  rw [List.nodup_cons] at hd
  have hs := hS i
  have hic := hi i (by simp)
  have hio : ∀ j, j ∈ o → j < (c.set i (min left (S.getD i 0))).length := fun j hj => by simp; exact hi j (by simp [hj])
  obtain ⟨h1, h2, h3⟩ := greedy_bd S o (left - min left (S.getD i 0)) (c.set i (min left (S.getD i 0))) hd.2 hio (by omega) hS
  have he : (greedyL S (i :: o) left c) = greedyL S o (left - min left (S.getD i 0)) (c.set i (min left (S.getD i 0))) := rfl
  have hx := greedy_other S o (left - min left (S.getD i 0)) (c.set i (min left (S.getD i 0))) i hio hd.1
  rw [getD_set hic, if_pos rfl] at hx
  rw [he]
  refine ⟨h1, fun k hk => ?_, ?_⟩
  ·rcases List.mem_cons.1 hk with e | hk
   ·rw [e, hx]; omega
   ·exact h2 k hk
  ·simp only [List.map_cons, List.sum_cons]; rw [hx]; omega
theorem sum_range_list : ∀ (c : List Int), ((List.range c.length).map fun k => c.getD k 0).sum = c.sum
 | [] => rfl
 | x :: c => by
  simp only [List.length_cons, List.range_succ_eq_map, List.map_cons, List.sum_cons, List.map_map]
  rw [← sum_range_list c]; rfl
theorem sum_part : ∀ {o l : List Nat} {f : Nat → Int}, o.Nodup → l.Nodup → (∀ k, k ∈ o → k ∈ l) → (∀ k, k ∈ l → k ∉ o → f k = 0) → (o.map f).sum = (l.map f).sum
 | [], l, f, _, _, _, h => by
  rw [sum_nat_congr (f := f) (g := fun _ => 0) (fun x hx => h x hx (by simp))]; simp only [List.map_nil, List.sum_nil]; exact (sum_zero l).symm
 | i :: o, l, f, hd, hl, hs, h => by
  rw [List.nodup_cons] at hd
  have hi := hs i (by simp)
  have key : ∀ (l : List Nat), i ∈ l → (l.map f).sum = f i + ((l.erase i).map f).sum := fun l => by
   induction l with
   | nil => intro h; simp at h
   | cons a l ih =>
    intro hm
    by_cases e : a = i
    ·subst e; simp
    ·rw [List.erase_cons_tail (by simpa using e)]
     simp only [List.map_cons, List.sum_cons]
     rw [ih (by rcases List.mem_cons.1 hm with e' | hm; exact (e e'.symm).elim; exact hm)]; omega
  rw [key l hi]
  simp only [List.map_cons, List.sum_cons]
  rw [sum_part (o := o) (l := l.erase i) hd.2 (hl.erase i) (fun k hk => (List.mem_erase_of_ne (fun e => hd.1 (by rw [← e]; exact hk))).2 (hs k (by simp [hk]))) (fun k hk hn => by
   have hk' := List.mem_of_mem_erase hk
   refine h k hk' (fun hm => ?_)
   rcases List.mem_cons.1 hm with e | hm
   ·subst e; exact (hl.not_mem_erase hk).elim
   ·exact hn hm)]
theorem order_lt {P : List Int} {n set i : Nat} (h : i ∈ orderL P n set) : i < n := ((order_spec P n set).2.2 i).1 h |>.1
theorem rep_get (n k : Nat) : (List.replicate n (0 : Int)).getD k 0 = 0 := by
 rw [List.getD_eq_getElem?_getD, List.getElem?_replicate]; split <;> rfl
theorem stock_nonneg {ls : List Seller} {wants : List Int} (hS : SellersB ls wants) (g i : Nat) : 0 ≤ (stocksOf ls g).getD i 0 := by
 unfold stocksOf
 rw [List.getD_eq_getElem?_getD, List.getElem?_map]
 cases h : ls[i]? with
 | none => simp
 | some s =>
  simp only [Option.map_some, Option.getD_some]
  rw [List.getD_eq_getElem?_getD]
  cases h2 : s.stock[g]? with
  | none => simp
  | some v => exact ((hS.one s (List.mem_of_getElem? h)).2.2.2.1 v (List.mem_of_getElem? h2)).1
theorem want_nonneg {ls : List Seller} {wants : List Int} (hS : SellersB ls wants) (g : Nat) : 0 ≤ wants.getD g 0 := by
 rw [List.getD_eq_getElem?_getD]
 cases h2 : wants[g]? with
 | none => simp
 | some v => exact (hS.want v (List.mem_of_getElem? h2)).1
theorem col_spec {ls : List Seller} {wants : List Int} (hS : SellersB ls wants) (set g : Nat) : 0 ≤ (colB ls set g (wants.getD g 0)).2 ∧
  (∀ k, k < ls.length → 0 ≤ (colB ls set g (wants.getD g 0)).1.getD k 0 ∧ (colB ls set g (wants.getD g 0)).1.getD k 0 ≤ (stocksOf ls g).getD k 0 ∧ (set.testBit k = false → (colB ls set g (wants.getD g 0)).1.getD k 0 = 0)) ∧
  (colB ls set g (wants.getD g 0)).1.sum + (colB ls set g (wants.getD g 0)).2 = wants.getD g 0 := by
 obtain ⟨o1, o2, o3⟩ := order_spec (pricesOf ls g) ls.length set
 have hi : ∀ i, i ∈ orderL (pricesOf ls g) ls.length set → i < (List.replicate ls.length (0 : Int)).length := fun i h => by simp; exact order_lt h
 obtain ⟨h1, h2, h3⟩ := greedy_bd (stocksOf ls g) _ _ (List.replicate ls.length 0) o1 hi (want_nonneg hS g) (stock_nonneg hS g)
 have ho := fun k hk => greedy_other (stocksOf ls g) _ (wants.getD g 0) (List.replicate ls.length 0) k hi hk
 have hl : (colB ls set g (wants.getD g 0)).1.length = ls.length := by unfold colB; rw [greedy_len]; simp
 refine ⟨h1, fun k hk => ?_, ?_⟩
 ·by_cases hm : k ∈ orderL (pricesOf ls g) ls.length set
  ·refine ⟨(h2 k hm).1, (h2 k hm).2, fun hb => ?_⟩
   have := (o3 k).1 hm; rw [hb] at this; simp at this
  ·have := ho k hm
   rw [rep_get] at this
   have hs := stock_nonneg hS g k
   unfold colB; rw [this]; exact ⟨by omega, hs, fun _ => rfl⟩
 ·rw [← sum_range_list, hl, ← sum_part (o := orderL (pricesOf ls g) ls.length set) (f := fun k => (colB ls set g (wants.getD g 0)).1.getD k 0) o1 List.nodup_range (fun k hk => by simpa using order_lt hk) (fun k _ hn => by
   have := ho k hn; rw [rep_get] at this; exact this)]
  exact h3
theorem from_some {ls : List Seller} {wants : List Int} {set : Nat} {p : List (List Int)} (h : fromB ls wants set = some p) : p = planOf ls wants set ∧ ∀ g, g < wants.length → (colB ls set g (wants.getD g 0)).2 ≤ 0 := by
 unfold fromB at h
 split at h
 ·rename_i ha
  refine ⟨by simpa using h.symm, fun g hg => ?_⟩
  have := List.all_eq_true.1 ha g (by simpa using hg)
  simpa using this
 ·cases h
theorem from_purchase {ls : List Seller} {wants : List Int} (hS : SellersB ls wants) {set : Nat} {p : List (List Int)} (h : fromB ls wants set = some p) : PurchaseB ls wants p := by
 obtain ⟨rfl, h0⟩ := from_some h
 refine ⟨plan_len _ _ _, fun i s r hi hr => ?_, fun g hg => ?_⟩
 ·have hil := (List.getElem?_eq_some_iff.1 hi).1
  have hr' : r = (List.range wants.length).map fun g => (colB ls set g (wants.getD g 0)).1.getD i 0 := by
   unfold planOf at hr; rw [List.getElem?_map, List.getElem?_range hil] at hr; simpa using hr.symm
  refine ⟨by rw [hr']; simp, fun g hg => ?_⟩
  have hrg : r.getD g 0 = (colB ls set g (wants.getD g 0)).1.getD i 0 := by
   rw [hr', List.getD_eq_getElem?_getD, List.getElem?_map, List.getElem?_range hg]; rfl
  have hst : (stocksOf ls g).getD i 0 = s.stock.getD g 0 := by unfold stocksOf; rw [List.getD_eq_getElem?_getD, List.getElem?_map, hi]; rfl
  have := (col_spec hS set g).2.1 i hil
  rw [hrg]; rw [hst] at this; exact ⟨this.1, this.2.1⟩
 ·rw [cols_get hg]
  have := col_spec hS set g
  have := h0 g hg
  omega
theorem purchase_row {ls : List Seller} {wants : List Int} {p : List (List Int)} (h : PurchaseB ls wants p) {r : List Int} (hr : r ∈ p) : r.length = wants.length ∧ ∀ x, x ∈ r → 0 ≤ x := by
 obtain ⟨i, hi⟩ := List.getElem?_of_mem hr
 have hil := (List.getElem?_eq_some_iff.1 hi).1
 have := h.row i (ls[i]'(by have := h.len; omega)) r (by simp) hi
 refine ⟨this.1, fun x hx => ?_⟩
 obtain ⟨g, hg⟩ := List.getElem?_of_mem hx
 have hgl := (List.getElem?_eq_some_iff.1 hg).1
 have h2 := (this.2 g (by omega)).1
 rw [List.getD_eq_getElem?_getD, hg] at h2; exact h2
end Go.Proofs.YtokananogogjaaaGreatDoor

/- What is wanted; purchases row by row and column by column, in plain Lean. -/
namespace Go.Proofs.YtokananogogjaaaGreatDoor
/-! ### What is wanted -/
def wantTo (ys : List (Int × Int × Int × Int)) (l : List Int) (k : Nat) (g : Int) : Int := (((ys.take k).filter fun y => l.getD y.1.toNat 0 == g).map fun y => y.2.2.2).sum
def wantsTo (n : Nat) (ys : List (Int × Int × Int × Int)) (l : List Int) (k : Nat) : List Int := (numsOf n).map (wantTo ys l k)
theorem wantsTo_len (n : Nat) (ys : List (Int × Int × Int × Int)) (l : List Int) (k : Nat) : (wantsTo n ys l k).length = n := by simp [wantsTo, numsOf]
theorem wantsTo_zero (n : Nat) (ys : List (Int × Int × Int × Int)) (l : List Int) : wantsTo n ys l 0 = List.replicate n 0 := by
 refine List.eq_replicate_iff.2 ⟨wantsTo_len _ _ _ _, fun x hx => ?_⟩
 obtain ⟨g, _, rfl⟩ := List.mem_map.1 hx
 simp [wantTo]
theorem wantTo_succ {ys : List (Int × Int × Int × Int)} {l : List Int} {k : Nat} {y : Int × Int × Int × Int} (h : ys[k]? = some y) (g : Int) : wantTo ys l (k + 1) g = wantTo ys l k g + if l.getD y.1.toNat 0 = g then y.2.2.2 else 0 := by
 unfold wantTo
 rw [List.take_add_one, h, Option.toList_some, List.filter_append, List.map_append, List.sum_append]
 by_cases hg : l.getD y.1.toNat 0 = g
 ·rw [if_pos hg, List.filter_cons_of_pos (by simpa using hg)]; simp
 ·rw [if_neg hg, List.filter_cons_of_neg (by simpa using hg)]; simp
theorem numsOf_at {n x : Nat} (h : x < n) : (numsOf n)[x]? = some (x : Int) := by simp [numsOf, h]
theorem wantsTo_at {n : Nat} {ys : List (Int × Int × Int × Int)} {l : List Int} {k x : Nat} (h : x < n) : (wantsTo n ys l k)[x]? = some (wantTo ys l k x) := by
 unfold wantsTo; rw [List.getElem?_map, numsOf_at h]; rfl
theorem wantsTo_succ {n : Nat} {ys : List (Int × Int × Int × Int)} {l : List Int} {k x : Nat} {y : Int × Int × Int × Int} (h : ys[k]? = some y) (hx : l.getD y.1.toNat 0 = (x : Int)) : wantsTo n ys l (k + 1) = (wantsTo n ys l k).set x (wantTo ys l k x + y.2.2.2) := by
 apply List.ext_getElem?
 intro j
 by_cases hj : j < n
 ·rw [wantsTo_at hj, wantTo_succ h, hx]
  by_cases hjx : x = j
  ·subst hjx
   rw [List.getElem?_set_self (by rw [wantsTo_len]; exact hj), if_pos rfl]
  ·rw [List.getElem?_set_ne hjx, wantsTo_at hj, if_neg (by omega), Int.add_zero]
 ·rw [List.getElem?_eq_none (by rw [wantsTo_len]; omega), List.getElem?_eq_none (by rw [List.length_set, wantsTo_len]; omega)]
theorem wantTo_bd {ys : List (Int × Int × Int × Int)} (h : ∀ y, y ∈ ys → 0 ≤ y.2.2.2 ∧ y.2.2.2 ≤ 1000) (l : List Int) (g : Int) : ∀ k : Nat, 0 ≤ wantTo ys l k g ∧ wantTo ys l k g ≤ 1000 * k
 | 0 => by simp [wantTo]
 | k + 1 => by
  have ih := wantTo_bd h l g k
  cases hy : ys[k]? with
  | none =>
   have hl := List.getElem?_eq_none_iff.1 hy
   have : wantTo ys l (k + 1) g = wantTo ys l k g := by
    unfold wantTo
    rw [List.take_of_length_le hl, List.take_of_length_le (Nat.le_succ_of_le hl)]
   rw [this]; omega
  | some y =>
   have := h y (List.mem_of_getElem? hy)
   rw [wantTo_succ hy]
   split <;> omega
/-- The least and the greatest of some numbers. -/
def spanOf : List Int → Int × Int
 | [] => (0, 0)
 | v :: vs => vs.foldl (fun s u => (min s.1 u, max s.2 u)) (v, v)
theorem spanOf_push {l : List Int} (h : l ≠ []) (v : Int) : spanOf (l ++ [v]) = (min (spanOf l).1 v, max (spanOf l).2 v) := by
 cases l with
 | nil => exact absurd rfl h
 | cons x l => simp [spanOf, List.foldl_append]
/-- The spans of the goods, after some readings. -/
def spansL (n : Nat) (rs : List (List Int)) : List (Int × Int) := (List.range n).map fun g => spanOf (rs.map fun r => r.getD g 0)
theorem spansL_len (n : Nat) (rs : List (List Int)) : (spansL n rs).length = n := by simp [spansL]
theorem spansL_nil (n : Nat) : spansL n [] = List.replicate n (0, 0) := by
 refine List.eq_replicate_iff.2 ⟨spansL_len _ _, fun x hx => ?_⟩
 obtain ⟨g, _, rfl⟩ := List.mem_map.1 hx
 rfl
theorem spansL_at {n g : Nat} {rs : List (List Int)} (h : g < n) : (spansL n rs)[g]? = some (spanOf (rs.map fun r => r.getD g 0)) := by
 unfold spansL; rw [List.getElem?_map, List.getElem?_range h]; rfl
/-- Some of the spans have the reading, the others not yet. -/
def spansTo (n : Nat) (rs : List (List Int)) (r : List Int) (k : Nat) : List (Int × Int) := (spansL n (rs ++ [r])).take k ++ (spansL n rs).drop k
theorem spansTo_zero (n : Nat) (rs : List (List Int)) (r : List Int) : spansTo n rs r 0 = spansL n rs := by simp [spansTo]
theorem spansTo_all (n : Nat) (rs : List (List Int)) (r : List Int) : spansTo n rs r n = spansL n (rs ++ [r]) := by
 unfold spansTo
 rw [List.take_of_length_le (by rw [spansL_len]; exact Nat.le_refl _), List.drop_eq_nil_of_le (by rw [spansL_len]; exact Nat.le_refl _)]; simp
theorem spansTo_len {n : Nat} (rs : List (List Int)) (r : List Int) {k : Nat} (h : k ≤ n) : (spansTo n rs r k).length = n := by
 unfold spansTo; rw [List.length_append, List.length_take, List.length_drop, spansL_len, spansL_len]; omega
theorem spansTo_at {n : Nat} {rs : List (List Int)} {r : List Int} {k : Nat} (h : k < n) : (spansTo n rs r k)[k]? = some (spanOf (rs.map fun r => r.getD k 0)) := by
 unfold spansTo
 rw [List.getElem?_append_right (by rw [List.length_take, spansL_len]; omega), List.length_take, spansL_len, Nat.min_eq_left (Nat.le_of_lt h), Nat.sub_self, List.getElem?_drop, Nat.add_zero, spansL_at h]
theorem spansTo_succ {n : Nat} {rs : List (List Int)} {r : List Int} {k : Nat} (h : k < n) : (spansTo n rs r k).set k (spanOf ((rs ++ [r]).map fun r => r.getD k 0)) = spansTo n rs r (k + 1) := by
 unfold spansTo
 have h1 : (spansL n (rs ++ [r])).length = n := spansL_len _ _
 have h2 : (spansL n rs).length = n := spansL_len _ _
 rw [List.set_append_right _ _ (by rw [List.length_take, h1]; omega), List.length_take, h1, Nat.min_eq_left (Nat.le_of_lt h), Nat.sub_self, List.drop_eq_getElem_cons (i := k) (by omega), List.set_cons_zero]
 have h3 : (spansL n (rs ++ [r])).take (k + 1) = (spansL n (rs ++ [r])).take k ++ [spanOf ((rs ++ [r]).map fun r => r.getD k 0)] := by
  rw [List.take_add_one, spansL_at h]; rfl
 rw [h3, List.append_assoc]; rfl
/-! ### A purchase's cost, row by row -/
theorem over_at : ∀ {r t : List Int} {g : Nat} {n s : Int}, r[g]? = some n → t[g]? = some s → inB n 0 s = false → overL r t = true
 | [], _, _, _, _, h, _, _ => by simp at h
 | _ :: _, [], _, _, _, _, h, _ => by simp at h
 | x :: r, y :: t, 0, n, s, h1, h2, h3 => by simp at h1 h2; subst h1 h2; unfold overL; rw [h3]; rfl
 | x :: r, y :: t, g + 1, n, s, h1, h2, h3 => by unfold overL; rw [over_at (r := r) (t := t) (g := g) (by simpa using h1) (by simpa using h2) h3]; simp
theorem over_take : ∀ {r t : List Int} {g : Nat} {n s : Int}, r[g]? = some n → t[g]? = some s → overL (r.take (g + 1)) t = (overL (r.take g) t || !inB n 0 s)
 | [], _, _, _, _, h, _ => by simp at h
 | _ :: _, [], _, _, _, _, h => by simp at h
 | x :: r, y :: t, 0, n, s, h1, h2 => by simp at h1 h2; subst h1 h2; simp [overL]
 | x :: r, y :: t, g + 1, n, s, h1, h2 => by
  have := over_take (r := r) (t := t) (g := g) (by simpa using h1) (by simpa using h2)
  simp only [List.take_succ_cons, overL, this, Bool.or_assoc]
theorem dot_take : ∀ {r t : List Int} {g : Nat} {n s : Int}, r[g]? = some n → t[g]? = some s → dotL (r.take (g + 1)) t = dotL (r.take g) t + n * s
 | [], _, _, _, _, h, _ => by simp at h
 | _ :: _, [], _, _, _, _, h => by simp at h
 | x :: r, y :: t, 0, n, s, h1, h2 => by simp at h1 h2; subst h1 h2; simp [dotL]
 | x :: r, y :: t, g + 1, n, s, h1, h2 => by
  have := dot_take (r := r) (t := t) (g := g) (by simpa using h1) (by simpa using h2)
  simp only [List.take_succ_cons, dotL, this]; omega
theorem sub_take : ∀ {a r : List Int} {g : Nat} {x n : Int}, a[g]? = some x → r[g]? = some n → subL a (r.take (g + 1)) = (subL a (r.take g)).set g (x - n) ∧ (subL a (r.take g))[g]? = some x
 | [], _, _, _, _, h, _ => by simp at h
 | _ :: _, [], _, _, _, _, h => by simp at h
 | y :: a, z :: r, 0, x, n, h1, h2 => by simp at h1 h2; subst h1 h2; cases a <;> simp [subL]
 | y :: a, z :: r, g + 1, x, n, h1, h2 => by
  have := sub_take (a := a) (r := r) (g := g) (by simpa using h1) (by simpa using h2)
  simp only [List.take_succ_cons, subL, List.set_cons_succ, List.getElem?_cons_succ]
  exact ⟨by rw [this.1], this.2⟩
theorem dot_bd : ∀ {r t : List Int}, (∀ x, x ∈ r → 0 ≤ x ∧ x ≤ 100) → (∀ x, x ∈ t → 0 ≤ x ∧ x ≤ 1000) → 0 ≤ dotL r t ∧ dotL r t ≤ 100000 * r.length
 | [], _, _, _ => by simp [dotL]
 | x :: r, [], _, _ => by simp [dotL]; omega
 | x :: r, y :: t, h1, h2 => by
  have ih := dot_bd (r := r) (t := t) (fun z hz => h1 z (by simp [hz])) (fun z hz => h2 z (by simp [hz]))
  have hx := h1 x (by simp)
  have hy := h2 y (by simp)
  have a1 : 0 ≤ x * y := Int.mul_nonneg hx.1 hy.1
  have a2 : x * y ≤ 100 * 1000 := Int.mul_le_mul hx.2 hy.2 hy.1 (by decide)
  simp only [dotL, List.length_cons]
  push_cast
  omega
theorem badRows_at {n : Nat} : ∀ {ls : List Seller} {p : List (List Int)} {i : Nat} {s : Seller} {r : List Int}, ls[i]? = some s → p[i]? = some r → (r.length ≠ n ∨ overL r s.stock = true) → badRows n ls p = true
 | [], _, _, _, _, h, _, _ => by simp at h
 | _ :: _, [], _, _, _, _, h, _ => by simp at h
 | x :: ls, y :: p, 0, s, r, h1, h2, h3 => by
  simp at h1 h2; subst h1 h2
  unfold badRows
  rcases h3 with h3 | h3
  ·rw [decide_eq_true (by omega)]; simp
  ·rw [h3]; simp
 | x :: ls, y :: p, i + 1, s, r, h1, h2, h3 => by unfold badRows; rw [badRows_at (ls := ls) (p := p) (i := i) (by simpa using h1) (by simpa using h2) h3]; simp
theorem badRows_take {n : Nat} : ∀ {ls : List Seller} {p : List (List Int)} {i : Nat} {s : Seller} {r : List Int}, ls[i]? = some s → p[i]? = some r → badRows n ls (p.take (i + 1)) = (badRows n ls (p.take i) || (decide ((r.length : Int) ≠ n) || overL r s.stock))
 | [], _, _, _, _, h, _ => by simp at h
 | _ :: _, [], _, _, _, _, h => by simp at h
 | x :: ls, y :: p, 0, s, r, h1, h2 => by simp at h1 h2; subst h1 h2; cases ls <;> simp [badRows]
 | x :: ls, y :: p, i + 1, s, r, h1, h2 => by
  have := badRows_take (n := n) (ls := ls) (p := p) (i := i) (by simpa using h1) (by simpa using h2)
  simp only [List.take_succ_cons, badRows, this, Bool.or_assoc]
theorem costs_take : ∀ {ls : List Seller} {p : List (List Int)} {i : Nat} {s : Seller} {r : List Int}, ls[i]? = some s → p[i]? = some r → costsB ls (p.take (i + 1)) = costsB ls (p.take i) + rowCost s r
 | [], _, _, _, _, h, _ => by simp at h
 | _ :: _, [], _, _, _, _, h => by simp at h
 | x :: ls, y :: p, 0, s, r, h1, h2 => by simp at h1 h2; subst h1 h2; cases ls <;> simp [costsB]
 | x :: ls, y :: p, i + 1, s, r, h1, h2 => by
  have := costs_take (ls := ls) (p := p) (i := i) (by simpa using h1) (by simpa using h2)
  simp only [List.take_succ_cons, costsB, this]; omega
theorem left_take {p : List (List Int)} {i : Nat} {r : List Int} (wants : List Int) (h : p[i]? = some r) : leftOf wants (p.take (i + 1)) = subL (leftOf wants (p.take i)) r := by
 unfold leftOf; rw [List.take_add_one, h, Option.toList_some, List.foldl_append]; rfl
/-! ### A purchase, column by column -/
theorem greedy_push (S : List Int) : ∀ {o : List Nat} {k i : Nat} (left : Int) (c : List Int), o[k]? = some i →
  greedyL S (o.take (k + 1)) left c = ((greedyL S (o.take k) left c).1.set i (min (greedyL S (o.take k) left c).2 (S.getD i 0)), (greedyL S (o.take k) left c).2 - min (greedyL S (o.take k) left c).2 (S.getD i 0))
 | [], _, _, _, _, h => by simp at h
 | x :: o, 0, i, left, c, h => by simp at h; subst h; simp [greedyL]
 | x :: o, k + 1, i, left, c, h => by
  have := greedy_push S (o := o) (k := k) (left - min left (S.getD x 0)) (c.set x (min left (S.getD x 0))) (by simpa using h)
  simp only [List.take_succ_cons, greedyL]
  exact this
/-- The rows when the columns below g are filled, and column g holds c. -/
def planCol (ls : List Seller) (wants : List Int) (set g : Nat) (c : List Int) : List (List Int) := (List.range ls.length).map fun i => (List.range wants.length).map fun h => if h < g then (colB ls set h (wants.getD h 0)).1.getD i 0 else if h = g then c.getD i 0 else 0
theorem planCol_len (ls : List Seller) (wants : List Int) (set g : Nat) (c : List Int) : (planCol ls wants set g c).length = ls.length := by simp [planCol]
theorem planCol_at {ls : List Seller} {wants : List Int} {set g : Nat} {c : List Int} {i : Nat} (hi : i < ls.length) : (planCol ls wants set g c)[i]? = some ((List.range wants.length).map fun h => if h < g then (colB ls set h (wants.getD h 0)).1.getD i 0 else if h = g then c.getD i 0 else 0) := by
 unfold planCol; rw [List.getElem?_map, List.getElem?_range hi]; rfl
theorem rep_get' (n k : Nat) : (List.replicate n (0 : Int)).getD k 0 = 0 := by
 rw [List.getD_eq_getElem?_getD, List.getElem?_replicate]; split <;> rfl
theorem planCol_zero (ls : List Seller) (wants : List Int) (set : Nat) : planCol ls wants set 0 (List.replicate ls.length 0) = List.replicate ls.length (List.replicate wants.length 0) := by
 refine List.eq_replicate_iff.2 ⟨planCol_len _ _ _ _ _, fun r hr => ?_⟩
 obtain ⟨i, _, rfl⟩ := List.mem_map.1 hr
 refine List.eq_replicate_iff.2 ⟨by simp, fun x hx => ?_⟩
 obtain ⟨h, _, rfl⟩ := List.mem_map.1 hx
 rw [if_neg (by omega), rep_get']; split <;> rfl
theorem planCol_next (ls : List Seller) (wants : List Int) (set g : Nat) : planCol ls wants set g (colB ls set g (wants.getD g 0)).1 = planCol ls wants set (g + 1) (List.replicate ls.length 0) := by
 unfold planCol
 refine List.map_congr_left fun i _ => List.map_congr_left fun h _ => ?_
 rw [rep_get']
 by_cases h1 : h < g
 ·rw [if_pos h1, if_pos (by omega)]
 ·rw [if_neg h1]
  by_cases h2 : h = g
  ·subst h2; rw [if_pos rfl, if_pos (by omega)]
  ·rw [if_neg h2, if_neg (by omega)]; split <;> rfl
theorem planCol_all (ls : List Seller) (wants : List Int) (set : Nat) : planCol ls wants set wants.length (List.replicate ls.length 0) = planOf ls wants set := by
 unfold planCol planOf
 refine List.map_congr_left fun i _ => List.map_congr_left fun h hh => ?_
 rw [if_pos (by simpa using hh)]
theorem planCol_set {ls : List Seller} {wants : List Int} {set g : Nat} {c r : List Int} {i : Nat} (v : Int) (hi : i < ls.length) (hc : c.length = ls.length) (h : (planCol ls wants set g c)[i]? = some r) :
 (planCol ls wants set g c).set i (r.set g v) = planCol ls wants set g (c.set i v) := by
 have hr := planCol_at (wants := wants) (set := set) (g := g) (c := c) hi
 rw [hr] at h
 cases h
 apply List.ext_getElem?
 intro j
 by_cases hj : j < ls.length
 ·rw [planCol_at hj]
  by_cases e : i = j
  ·subst e
   rw [List.getElem?_set_self (by rw [planCol_len]; exact hj)]
   congr 1
   apply List.ext_getElem?
   intro h
   by_cases hh : h < wants.length
   ·by_cases eh : g = h
    ·subst eh
     rw [List.getElem?_set_self (by simpa using hh), List.getElem?_map, List.getElem?_range hh]
     simp [hc, hi]
    ·rw [List.getElem?_set_ne eh, List.getElem?_map, List.getElem?_map, List.getElem?_range hh]
     have hne : ¬ h = g := fun e => eh e.symm
     simp only [Option.map_some, hne, if_false]
   ·rw [List.getElem?_eq_none (by simp; omega), List.getElem?_eq_none (by simp; omega)]
  ·rw [List.getElem?_set_ne e, planCol_at hj]
   congr 1
   refine List.map_congr_left fun h _ => ?_
   rw [getD_set (by omega), if_neg e]
 ·rw [List.getElem?_eq_none (by simp [planCol_len]; omega), List.getElem?_eq_none (by simp [planCol_len]; omega)]
/-- After g columns: is any of them short? -/
def shortTo (ls : List Seller) (wants : List Int) (set g : Nat) : Bool := (List.range g).any fun h => decide (0 < (colB ls set h (wants.getD h 0)).2)
theorem shortTo_succ (ls : List Seller) (wants : List Int) (set g : Nat) : shortTo ls wants set (g + 1) = (shortTo ls wants set g || decide (0 < (colB ls set g (wants.getD g 0)).2)) := by
 unfold shortTo; rw [List.range_succ, List.any_append]; simp
theorem boughtL_to (ls : List Seller) (wants : List Int) (k : Nat) : (List.range (k + 1)).filterMap (boughtOf ls wants) = (List.range k).filterMap (boughtOf ls wants) ++ (boughtOf ls wants k).toList := by
 rw [List.range_succ, List.filterMap_append]
 cases h : boughtOf ls wants k <;> simp [h]
/-- From how many sellers, row by row. -/
def sellersTo (p : List (List Int)) (k : Nat) : Int := sellersOf (p.take k)
theorem sellersTo_succ {p : List (List Int)} {k : Nat} {r : List Int} (h : p[k]? = some r) : sellersTo p (k + 1) = sellersTo p k + if 0 < r.sum then 1 else 0 := by
 unfold sellersTo sellersOf
 rw [List.take_add_one, h, Option.toList_some, List.map_append, List.sum_append]; simp
theorem sellersTo_bd (p : List (List Int)) (k : Nat) : 0 ≤ sellersTo p k ∧ sellersTo p k ≤ p.length := by
 have key : ∀ q : List (List Int), 0 ≤ sellersOf q ∧ sellersOf q ≤ q.length := by
  intro q
  induction q with
  | nil => simp [sellersOf]
  | cons r q ih =>
   unfold sellersOf at *
   simp only [List.map_cons, List.sum_cons, List.length_cons]
   split <;> omega
 have := key (p.take k)
 rw [List.length_take] at this
 unfold sellersTo; omega
end Go.Proofs.YtokananogogjaaaGreatDoor

/- A stable sort of few, in plain Lean: the library's insertion sort. -/
namespace Go.Proofs.YtokananogogjaaaGreatDoor
open Go.Sort
/-! ### The library's insertion sort is stable, if later ones came first -/
section
variable {N : Nat}
def ltP (P : List Int) (x y : Fin (N + 1)) : Bool := decide (P.getD x.val 0 < P.getD y.val 0)
def ltS (P : List Int) (x y : Fin (N + 1)) : Bool := decide (P.getD x.val 0 < P.getD y.val 0 ∨ P.getD x.val 0 = P.getD y.val 0 ∧ y.val < x.val)
theorem ltS_swo (P : List Int) : SWO (ltS (N := N) P) where
 irrefl := fun x => by unfold ltS; rw [decide_eq_false_iff_not]; omega
 trans := fun x y z h1 h2 => by unfold ltS at *; rw [decide_eq_true_eq] at *; omega
 ntrans := fun x y z h1 h2 => by unfold ltS at *; rw [decide_eq_false_iff_not] at *; omega
/-- Later ones come first, or are dearer. -/
def InvS (P : List Int) (d : Array (Fin (N + 1))) : Prop := ∀ p q, p < q → q < d.size → d[q]!.val < d[p]!.val ∨ P.getD d[p]!.val 0 < P.getD d[q]!.val 0
theorem inner_eq (P : List Int) (a : Nat) : ∀ (j : Nat) (d : Array (Fin (N + 1))), j < d.size → InvS P d → insInner (ltP P) a j d = insInner (ltS P) a j d ∧ InvS P (insInner (ltS P) a j d) ∧ (insInner (ltS P) a j d).size = d.size
 | 0, d, _, h => ⟨rfl, h, rfl⟩
 | j + 1, d, hj, h => by
  have h0 := h j (j + 1) (Nat.lt_succ_self _) hj
  have e : ltP P d[j + 1]! d[j]! = ltS P d[j + 1]! d[j]! := by
   unfold ltP ltS
   apply decide_eq_decide.2
   omega
  unfold insInner
  rw [e]
  by_cases hc : (decide (j + 1 > a) && ltS P d[j + 1]! d[j]!) = true
  ·rw [if_pos hc, if_pos hc]
   have hl : P.getD d[j + 1]!.val 0 < P.getD d[j]!.val 0 := by
    rw [← e] at hc
    simp only [Bool.and_eq_true] at hc
    unfold ltP at hc
    exact of_decide_eq_true hc.2
   have hs := swp_size d (j + 1) j
   have g := swp_get d hj (show j < d.size by omega)
   have ih := inner_eq P a j (swp d (j + 1) j) (by omega) (fun p q hpq hq => by
    rw [g p, g q]
    rw [hs] at hq
    by_cases p1 : p = j
    ·subst p1
     rw [if_pos rfl]
     by_cases q1 : q = p + 1
     ·subst q1
      rw [if_neg (by omega), if_pos rfl]
      exact .inr hl
     ·rw [if_neg (by omega), if_neg q1]
      exact h (p + 1) q (by omega) hq
    ·rw [if_neg p1]
     by_cases p2 : p = j + 1
     ·subst p2
      rw [if_pos rfl, if_neg (by omega), if_neg (by omega)]
      exact h j q (by omega) hq
     ·rw [if_neg p2]
      by_cases q1 : q = j
      ·subst q1
       rw [if_pos rfl]
       exact h p (q + 1) (by omega) hj
      ·rw [if_neg q1]
       by_cases q2 : q = j + 1
       ·subst q2
        rw [if_pos rfl]
        exact h p j (by omega) (by omega)
       ·rw [if_neg q2]
        exact h p q hpq hq)
   exact ⟨ih.1, ih.2.1, by rw [ih.2.2, hs]⟩
  ·rw [if_neg hc, if_neg hc]
   exact ⟨rfl, h, rfl⟩
theorem outer_step (lt : Fin (N + 1) → Fin (N + 1) → Bool) (a b i : Nat) (d : Array (Fin (N + 1))) : insOuter lt a b i d = if i < b then insOuter lt a b (i + 1) (insInner lt a i d) else d := by rw [insOuter]
theorem outer_eq (P : List Int) (a b : Nat) : ∀ (m i : Nat) (d : Array (Fin (N + 1))), b - i ≤ m → b ≤ d.size → InvS P d → insOuter (ltP P) a b i d = insOuter (ltS P) a b i d
 | 0, i, d, hm, _, _ => by
  rw [outer_step (ltP P), outer_step (ltS P), if_neg (by omega), if_neg (by omega)]
 | m + 1, i, d, hm, hb, h => by
  rw [outer_step (ltP P) a b i d, outer_step (ltS P) a b i d]
  by_cases hi : i < b
  ·rw [if_pos hi, if_pos hi]
   have h1 := inner_eq P a i d (by omega) h
   rw [h1.1]
   exact outer_eq P a b m (i + 1) _ (by omega) (by rw [h1.2.2]; exact hb) h1.2.1
  ·rw [if_neg hi, if_neg hi]
theorem insertion_eq (P : List Int) (d : Array (Fin (N + 1))) (h : InvS P d) : insertionSort (ltP P) d 0 d.size = insertionSort (ltS P) d 0 d.size :=
 outer_eq P 0 d.size d.size 1 d (by omega) (Nat.le_refl _) h
theorem get_bang {d : Array (Fin (N + 1))} {p : Nat} (h : p < d.size) : d[p]! = d[p] := by
 rw [getElem!_def, Array.getElem?_eq_getElem h]
/-- The sorted order is the one of the specification. -/
theorem order_sorted (P : List Int) (d : Array (Fin (N + 1))) (n set : Nat) (hd : d.toList.map Fin.val = (setL n set).reverse) :
 (insertionSort (ltP P) d 0 d.size).toList.map Fin.val = orderL P n set := by
 have hdesc : ∀ p q, p < q → q < d.size → d[q]!.val < d[p]!.val := fun p q hpq hq => by
  have hp : (d.toList.map Fin.val).Pairwise (fun a b => b < a) := by
   rw [hd, List.pairwise_reverse]
   unfold setL
   exact List.pairwise_lt_range.filter _
  have h1 := List.pairwise_iff_getElem.1 hp p q (by simp; omega) (by simp; omega) hpq
  rw [get_bang hq, get_bang (by omega)]
  simpa using h1
 have h0 := insertion_eq P d (fun p q hpq hq => .inl (hdesc p q hpq hq))
 obtain ⟨⟨hsz, _, hperm⟩, hsort⟩ := insertionSort_holds (lt := ltS P) (ltS_swo P) d 0 d.size (Nat.zero_le _) (Nat.le_refl _)
 rw [h0]
 generalize insertionSort (ltS P) d 0 d.size = e at hsz hperm hsort
 have hperm2 : e.toList.Perm d.toList := by
  have h1 : (e.extract 0 d.size).toList = e.toList := by rw [← hsz]; simp
  have h2 : (d.extract 0 d.size).toList = d.toList := by simp
  rw [h1, h2] at hperm
  exact hperm
 obtain ⟨o1, o2, o3⟩ := order_spec P n set
 have hm : (e.toList.map Fin.val).Perm (setL n set).reverse := by rw [← hd]; exact hperm2.map _
 have hnd : (setL n set).reverse.Nodup := by
  unfold List.Nodup
  rw [List.pairwise_reverse]
  unfold setL
  exact (List.pairwise_lt_range.filter _).imp fun h => Ne.symm (Nat.ne_of_lt h)
 have hnd2 : (e.toList.map Fin.val).Nodup := hm.nodup_iff.2 hnd
 have hp2 : (e.toList.map Fin.val).Perm (orderL P n set) := (List.perm_ext_iff_of_nodup hnd2 o1).2 fun x => by
  rw [hm.mem_iff, o3]; simp [setL]
 refine List.Perm.eq_of_pairwise (le := fun a b => a = b ∨ sooner P a b) (fun a b _ _ h k => ?_) ?_ (o2.imp fun h => .inr h) hp2
 ·rcases h with h | h
  ·exact h
  ·rcases k with k | k
   ·exact k.symm
   ·unfold sooner at h k; omega
 ·rw [List.pairwise_iff_getElem]
  intro i j hi hj hij
  simp at hi hj
  have h1 := hsort i j (Nat.zero_le _) hij (by omega)
  rw [get_bang hj, get_bang hi] at h1
  have h2 := List.pairwise_iff_getElem.1 hnd2 i j (by simpa using hi) (by simpa using hj) hij
  simp only [List.getElem_map, Array.getElem_toList] at h2 ⊢
  unfold ltS at h1
  rw [decide_eq_false_iff_not] at h1
  unfold sooner
  omega
end
end Go.Proofs.YtokananogogjaaaGreatDoor
