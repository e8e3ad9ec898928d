/- Purchases compared; a greater stock, one seller more, in plain Lean. -/
import Derived.Test.YtpebafaigldldaaGreatDoorOsw
import Derived.Test.YtpebafaigldldaaGreatDoorOlc
namespace Go.Proofs.YtpebafaigldldaaGreatDoor
open Go.RowKit
/-! ### A greater stock, one seller more -/
theorem dot_rep : ∀ (n : Nat) (P : List Int), dotL (List.replicate n 0) P = 0
 | 0, [] => rfl
 | 0, _ :: _ => rfl
 | n + 1, [] => rfl
 | n + 1, x :: P => by rw [List.replicate_succ]; unfold dotL; rw [dot_rep n P]; simp
theorem rep_sum : ∀ n : Nat, (List.replicate n (0 : Int)).sum = 0
 | 0 => rfl
 | n + 1 => by rw [List.replicate_succ, List.sum_cons, rep_sum n]; rfl
theorem rowCost_zero (s : Seller) (n : Nat) : rowCost s (List.replicate n 0) = 0 := by
 unfold rowCost; rw [dot_rep, rep_sum]; simp
theorem costs_app : ∀ {ls : List Seller} {p : List (List Int)}, p.length = ls.length → ∀ (s : Seller) (r : List Int), costsB (ls ++ [s]) (p ++ [r]) = costsB ls p + rowCost s r
 | [], [], _, s, r => by simp [costsB]
 | x :: ls, q :: p, h, s, r => by
  rw [List.cons_append, List.cons_append]
  unfold costsB
  rw [costs_app (by simpa using h) s r]; omega
theorem purchase_app {ls : List Seller} {wants : List Int} {p : List (List Int)} (h : PurchaseB ls wants p) {s : Seller} (hs : ∀ v, v ∈ s.stock → 0 ≤ v) : PurchaseB (ls ++ [s]) wants (p ++ [List.replicate wants.length 0]) where
 len := by simp [h.len]
 row := fun i t r h1 h2 => by
  by_cases hi : i < ls.length
  ·rw [List.getElem?_append_left hi] at h1
   rw [List.getElem?_append_left (by rw [h.len]; exact hi)] at h2
   exact h.row i t r h1 h2
  ·rw [List.getElem?_append_right (by omega)] at h1
   rw [List.getElem?_append_right (by rw [h.len]; omega)] at h2
   have hk : i - ls.length = 0 := by
    have := (List.getElem?_eq_some_iff.1 h1).1
    simp at this; omega
   rw [hk] at h1
   rw [h.len, hk] at h2
   simp at h1 h2
   subst h1 h2
   refine ⟨by simp, fun g hg => ⟨by rw [rep_get']; omega, ?_⟩⟩
   rw [rep_get']
   rw [List.getD_eq_getElem?_getD]
   cases hx : s.stock[g]? with
   | none => simp
   | some v => exact hs v (List.mem_of_getElem? hx)
 all := fun g hg => by
  have e : ((List.replicate wants.length (0 : Int))).getD g 0 = 0 := rep_get' _ _
  rw [List.map_append, List.sum_append, h.all g hg, List.map_cons, e]; simp
theorem stocks_seller {ls : List Seller} {wants : List Int} {s : Seller} (hS : SellersB ls wants) (hS' : SellersB (ls ++ [s]) wants) {x : Bought} (h : buyB ls wants = some x) : ∃ y, buyB (ls ++ [s]) wants = some y ∧ y.2.1 ≤ x.2.1 := by
 obtain ⟨h1, h2, _⟩ := buy_some hS h
 obtain ⟨y, hy, _, _, _, hle⟩ := buy_best hS' (purchase_app h1 (s := s) fun v hv => ((hS'.one s (by simp)).2.2.2.1 v hv).1)
 refine ⟨y, hy, ?_⟩
 rw [costs_app h1.len, rowCost_zero] at hle
 unfold leBt at hle
 simp at hle
 omega
def moreStock (ls : List Seller) (i g : Nat) (m : Int) : List Seller :=
 ls.modify i fun s => { s with stock := s.stock.set g (s.stock.getD g 0 + m) }
theorem moreStock_len (ls : List Seller) (i g : Nat) (m : Int) : (moreStock ls i g m).length = ls.length := by simp [moreStock]
theorem moreStock_get {ls : List Seller} {i g : Nat} {m : Int} {k : Nat} {t : Seller} (h : (moreStock ls i g m)[k]? = some t) : ∃ s, ls[k]? = some s ∧ t.parcel = s.parcel ∧ t.price = s.price ∧ t.stock = if k = i then s.stock.set g (s.stock.getD g 0 + m) else s.stock := by
 unfold moreStock at h
 rw [List.getElem?_modify] at h
 cases hk : ls[k]? with
 | none => rw [hk] at h; simp at h
 | some s =>
  rw [hk] at h
  by_cases hi : k = i
  ·subst hi; simp at h; subst h; exact ⟨s, rfl, rfl, rfl, by simp⟩
  ·have hi' : ¬ i = k := fun e => hi e.symm
   simp [hi'] at h; subst h; exact ⟨s, rfl, rfl, rfl, by simp [hi]⟩
theorem costs_congr : ∀ {a b : List Seller} (p : List (List Int)), a.length = b.length → (∀ (k : Nat) (t : Seller), a[k]? = some t → ∃ s, b[k]? = some s ∧ t.parcel = s.parcel ∧ t.price = s.price) → costsB a p = costsB b p
 | [], [], p, _, _ => rfl
 | x :: a, y :: b, [], _, _ => by unfold costsB; rfl
 | x :: a, y :: b, r :: p, hl, h => by
  unfold costsB
  obtain ⟨s, hs, h1, h2⟩ := h 0 x rfl
  simp at hs; subst hs
  rw [costs_congr p (by simpa using hl) (fun k t ht => h (k + 1) t ht)]
  unfold rowCost; rw [h1, h2]
theorem more_sellers {ls : List Seller} {wants : List Int} (hS : SellersB ls wants) {i g : Nat} {m : Int} {s : Seller} (hs : ls[i]? = some s) (h0 : 0 ≤ m) (h1 : m ≤ 100 - s.stock.getD g 0) : SellersB (moreStock ls i g m) wants where
 l1 := by rw [moreStock_len]; exact hS.l1
 l4 := by rw [moreStock_len]; exact hS.l4
 w1 := hS.w1
 w5 := hS.w5
 want := hS.want
 one := fun t ht => by
  obtain ⟨k, hk⟩ := List.getElem?_of_mem ht
  obtain ⟨u, hu, e1, e2, e3⟩ := moreStock_get hk
  obtain ⟨o1, o2, o3, o4, o5⟩ := hS.one u (List.mem_of_getElem? hu)
  refine ⟨by rw [e1]; exact o1, ?_, by rw [e2]; exact o3, ?_, by rw [e2]; exact o5⟩
  ·rw [e3]; split <;> simpa using o2
  ·rw [e3]
   split
   ·rename_i hki
    subst hki
    rw [hs] at hu; cases hu
    intro v hv
    rcases List.mem_or_eq_of_mem_set hv with h | h
    ·exact o4 v h
    ·subst h
     have : 0 ≤ s.stock.getD g 0 := by
      rw [List.getD_eq_getElem?_getD]
      cases hx : s.stock[g]? with
      | none => simp
      | some v => exact (o4 v (List.mem_of_getElem? hx)).1
     omega
   ·exact o4
theorem stocks_more {ls : List Seller} {wants : List Int} (hS : SellersB ls wants) {i g : Nat} {m : Int} {s : Seller} (hs : ls[i]? = some s) (h0 : 0 ≤ m) (h1 : m ≤ 100 - s.stock.getD g 0) {x : Bought} (h : buyB ls wants = some x) :
  ∃ y, buyB (moreStock ls i g m) wants = some y ∧ y.2.1 ≤ x.2.1 := by
 obtain ⟨q1, q2, _⟩ := buy_some hS h
 have hP : PurchaseB (moreStock ls i g m) wants x.1 :=
  ⟨by rw [moreStock_len]; exact q1.len, fun k t r ht hr => by
    obtain ⟨u, hu, _, _, e3⟩ := moreStock_get ht
    obtain ⟨r1, r2⟩ := q1.row k u r hu hr
    refine ⟨r1, fun z hz => ⟨(r2 z hz).1, ?_⟩⟩
    have := (r2 z hz).2
    rw [e3]
    split
    ·rename_i hki
     subst hki
     rw [hs] at hu; cases hu
     by_cases hzg : g < s.stock.length
     ·rw [getD_set hzg]
      split
      ·rename_i hg; subst hg; omega
      ·exact this
     ·rw [List.set_eq_of_length_le (by omega)]; exact this
    ·exact this, q1.all⟩
 obtain ⟨y, hy, _, _, _, hle⟩ := buy_best (more_sellers hS hs h0 h1) hP
 refine ⟨y, hy, ?_⟩
 rw [costs_congr x.1 (moreStock_len ls i g m) (fun k t ht => by obtain ⟨u, hu, e1, e2, _⟩ := moreStock_get ht; exact ⟨u, hu, e1, e2⟩)] at hle
 unfold leBt at hle
 simp at hle
 omega
/-! ### Purchases compared as the specification does -/
theorem bought_sum {r : List Int} (h : ∀ x, x ∈ r → 0 ≤ x) : (r.any fun x => decide (0 < x)) = decide (0 < r.sum) := by
 rw [Bool.eq_iff_iff, List.any_eq_true, decide_eq_true_eq, sum_pos_iff h]
 constructor
 ·rintro ⟨x, hx, h⟩; exact ⟨x, hx, by simpa using h⟩
 ·rintro ⟨x, hx, h⟩; exact ⟨x, hx, by simpa using h⟩
def preferB (ls : List Seller) (a b : List (List Int)) : Bool := if costsB ls a = costsB ls b then (if sellersOf a = sellersOf b then decide (cmpLL a b < 0) else decide (sellersOf a < sellersOf b)) else decide (costsB ls a < costsB ls b)
theorem rivals_no {ls : List Seller} {wants : List Int} (hS : SellersB ls wants) {q : List (List Int)} (hq : PurchaseB ls wants q) : ∃ x, buyB ls wants = some x ∧ PurchaseB ls wants x.1 ∧ x.2.1 = costsB ls x.1 ∧ x.2.1 ≤ costsB ls q ∧ preferB ls q x.1 = false := by
 obtain ⟨x, h1, h2, h3, h4, h5⟩ := buy_best hS hq
 unfold leBt at h5
 simp only at h5
 refine ⟨x, h1, h2, h3, by omega, ?_⟩
 unfold preferB
 have h6 := cmpLL_flip q x.1
 rw [h3, h4] at h5
 split
 ·split
  ·simp; omega
  ·simp; omega
 ·simp; omega
end Go.Proofs.YtpebafaigldldaaGreatDoor
