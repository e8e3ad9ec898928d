/- Letters, in plain Lean: what a letter can mean, what is wanted, and what a truth makes of them. -/
import Derived.Test.YtokananogogjaaaGreatDoorOre
import Derived.Test.YtokananogogjaaaGreatDoorOwa
import Derived.Test.YtokananogogjaaaGreatDoorOql
import Derived.Test.YtokananogogjaaaGreatDoorRbk
namespace Go.Proofs.YtokananogogjaaaGreatDoor
/-- Are all letters true, if an edition is a list? -/
def trueB (b : Book) (x : Buyer) (l : List Int) : Bool := !(x.letters.any (offB b l))
theorem true_wrong {b : Book} {x : Buyer} {l : List Int} : trueB b x l = true ↔ wrongB b x l = [] := by
 unfold trueB wrongB wrongTo
 rw [Bool.not_eq_true', List.any_eq_false, List.filter_eq_nil_iff]
 constructor
 ·intro h i hi
  obtain ⟨h0, h1⟩ := numsOf_mem.1 hi
  have hl : i.toNat < x.letters.length := by omega
  exact h _ (by rw [List.getD_eq_getElem?_getD, List.getElem?_eq_getElem hl]; simp)
 ·intro h y hy
  obtain ⟨i, hi⟩ := List.getElem?_of_mem hy
  have hl := (List.getElem?_eq_some_iff.1 hi).1
  have h2 := h (i : Int) (numsOf_mem.2 ⟨by omega, by omega⟩)
  rwa [Int.toNat_natCast, List.getD_eq_getElem?_getD, hi] at h2
theorem letters_in {b : Book} {x : Buyer} {t : List (List Int)} (h : FitsP b t) {e : Nat} (he : (e : Int) < b.editions) (hs : x.editions.toNat.testBit e = true) (hT : trueB b x (t.getD e []) = true) : ((e : Int), t.getD e []) ∈ lettersB b x := by
 unfold lettersB
 rw [List.mem_filter]
 refine ⟨?_, by rw [List.isEmpty_iff]; exact true_wrong.1 hT⟩
 unfold readsB readsTo
 rw [List.mem_flatMap]
 refine ⟨e, List.mem_range.2 (by omega), ?_⟩
 unfold readsOf
 rw [if_pos hs]
 exact List.mem_map.2 ⟨_, page_true h he, rfl⟩
theorem letErr_is {b : Book} {x : Buyer} {t : List (List Int)} (hbk : isBookB b = true) (hx : isBuyerB b x = true) (h : FitsP b t) : letErr b x = 0 ∧ lettersB b x ≠ [] ∨ letErr b x = 7 ∧ lettersB b x = [] := by
 have hz : askErr b true = 0 := by
  unfold askErr
  rw [hbk, Bool.and_self, if_pos rfl, if_neg]
  have hB := bookB_of hbk
  have h2 := page_true h (e := 0) (by have := hB.e1; omega)
  cases hp : pageB b 0 with
  | nil => rw [hp] at h2; simp at h2
  | cons => simp
 unfold letErr
 rw [hx, if_pos hz]
 by_cases hn : lettersB b x = []
 ·rw [if_pos hn]; exact .inr ⟨rfl, hn⟩
 ·rw [if_neg hn]; exact .inl ⟨rfl, hn⟩
theorem let_mem {b : Book} {x : Buyer} {r : Read1} (h : r ∈ lettersB b x) : ∃ e : Nat, (e : Int) < b.editions ∧ r.1 = e ∧ r.2 ∈ pageB b e := by
 unfold lettersB readsB at h
 obtain ⟨e, he, h1, _, h2⟩ := reads_mem (List.mem_filter.1 h).1
 exact ⟨e, by omega, h1, h2⟩
theorem which_mem {b : Book} {x : Buyer} {e : Int} : e ∈ whichB b x ↔ ∃ r, r ∈ lettersB b x ∧ r.1 = e := by
 unfold whichB; rw [listedL_mem, List.mem_map]
theorem which_ed {b : Book} {x : Buyer} {e : Int} (h : e ∈ whichB b x) : 0 ≤ e ∧ e < b.editions := by
 obtain ⟨r, hr, rfl⟩ := which_mem.1 h
 obtain ⟨n, h1, h2, _⟩ := let_mem hr
 omega
theorem which_len {b : Book} (hB : BookB b) (x : Buyer) : ((whichB b x).length : Int) ≤ b.editions := by
 have := sorted_len (lo := 0) (hi := b.editions) (listedL_sorted ((lettersB b x).map Prod.fst)) (fun e h => which_ed h) (by have := hB.e1; omega)
 unfold whichB; omega
theorem goods_mem {b : Book} {x : Buyer} {y : Letter} {v : Int} : v ∈ goodsB b x y ↔ ∃ r, r ∈ lettersB b x ∧ r.2.getD y.1.toNat 0 = v := by
 unfold goodsB; rw [listedL_mem, List.mem_map]
theorem goods_len {b : Book} {x : Buyer} {y : Letter} (h0 : 0 ≤ y.1) (h1 : y.1 < b.goods.length) (hn : lettersB b x ≠ []) : 1 ≤ (goodsB b x y).length ∧ (goodsB b x y).length ≤ b.goods.length := by
 refine ⟨?_, ?_⟩
 ·cases hl : lettersB b x with
  | nil => exact absurd hl hn
  | cons r t =>
   exact List.length_pos_of_mem (goods_mem.2 ⟨r, by rw [hl]; simp, rfl⟩)
 ·have := sorted_len (lo := 0) (hi := b.goods.length) (listedL_sorted ((lettersB b x).map fun r => r.2.getD y.1.toNat 0)) (fun v h => by
   obtain ⟨r, hr, rfl⟩ := goods_mem.1 h
   exact getD_perm (letters_perm hr) h0 h1) (by omega)
  unfold goodsB; omega
/-- Can a letter mean it by the book alone, in the first editions that the buyer can have? -/
def canTo (b : Book) (x : Buyer) (y : Letter) (v : Int) (n : Nat) : Bool := ((whichB b x).take n).any fun e => listedB (meansB b e.toNat y.1) v
theorem canTo_zero (b : Book) (x : Buyer) (y : Letter) (v : Int) : canTo b x y v 0 = false := by simp [canTo]
theorem canTo_succ {b : Book} {x : Buyer} {n : Nat} {e : Int} (h : (whichB b x)[n]? = some e) (y : Letter) (v : Int) : canTo b x y v (n + 1) = (canTo b x y v n || listedB (meansB b e.toNat y.1) v) := by
 unfold canTo; rw [List.take_add_one, h]; simp
theorem listed_mem {l : List Int} {n : Int} : listedB l n = true ↔ n ∈ l := by simp [listedB]
theorem canTo_all {b : Book} {x : Buyer} {y : Letter} {v : Int} (h : v ∈ goodsB b x y) : canTo b x y v (whichB b x).length = true := by
 obtain ⟨r, hr, rfl⟩ := goods_mem.1 h
 obtain ⟨e, _, h1, h2⟩ := let_mem hr
 unfold canTo
 rw [List.take_length, List.any_eq_true]
 exact ⟨r.1, which_mem.2 ⟨r, hr, rfl⟩, listed_mem.2 (means_mem.2 ⟨r.2, by rw [h1, Int.toNat_natCast]; exact h2, rfl⟩)⟩
theorem span_in {l : List Int} {v : Int} (h : v ∈ l) : (spanOf l).1 ≤ v ∧ v ≤ (spanOf l).2 := by
 have key : ∀ (vs : List Int) (s : Int × Int) (u : Int), (s.1 ≤ u ∧ u ≤ s.2 ∨ u ∈ vs) → (vs.foldl (fun s u => (min s.1 u, max s.2 u)) s).1 ≤ u ∧ u ≤ (vs.foldl (fun s u => (min s.1 u, max s.2 u)) s).2 := by
  intro vs
  induction vs with
  | nil => intro s u hu; rcases hu with hu | hu; exact hu; simp at hu
  | cons a vs ih =>
   intro s u hu
   rw [List.foldl_cons]
   refine ih _ u ?_
   rcases hu with hu | hu
   ·refine .inl ⟨?_, ?_⟩ <;> simp only <;> omega
   ·rcases List.mem_cons.1 hu with rfl | hu
    ·refine .inl ⟨?_, ?_⟩ <;> simp only <;> omega
    ·exact .inr hu
 cases l with
 | nil => simp at h
 | cons a l =>
  unfold spanOf
  refine key l (a, a) v ?_
  rcases List.mem_cons.1 h with rfl | h
  ·exact .inl ⟨Int.le_refl _, Int.le_refl _⟩
  ·exact .inr h
/-- What is wanted lies within its bounds. -/
theorem wants_in {b : Book} {x : Buyer} {r : Read1} (h : r ∈ lettersB b x) {k : Nat} (hk : k < b.goods.length) : ∃ s, (wantsB b x)[k]? = some s ∧ s.1 ≤ wantTo x.letters r.2 x.letters.length k ∧ wantTo x.letters r.2 x.letters.length k ≤ s.2 := by
 refine ⟨_, spansL_at hk, span_in (List.mem_map.2 ⟨_, List.mem_map.2 ⟨r, h, rfl⟩, ?_⟩)⟩
 rw [List.getD_eq_getElem?_getD, wantsTo_at hk]; rfl
theorem wants_len (b : Book) (x : Buyer) : (wantsB b x).length = b.goods.length := spansL_len _ _
end Go.Proofs.YtokananogogjaaaGreatDoor
