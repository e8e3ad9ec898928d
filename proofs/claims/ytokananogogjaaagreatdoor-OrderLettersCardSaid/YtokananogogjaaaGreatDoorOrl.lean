/- The specification's lists of a book, in plain Lean. -/
import Derived.Test.YtokananogogjaaaGreatDoorOql
namespace Go.Proofs.YtokananogogjaaaGreatDoor
open Go.RowKit
/-! ### The specification's lists -/
def extO (n : Nat) (all : List (List Int)) : List (List Int) := all.flatMap fun l => ((numsOf n).filter fun x => nodupB (l ++ [x])).map fun x => l ++ [x]
def ordO (n : Nat) : Nat → List (List Int)
 | 0 => [[]]
 | i + 1 => extO n (ordO n i)
theorem ordO_nodup (n : Nat) : ∀ (i : Nat) (l : List Int), l ∈ ordO n i → l.Nodup
 | 0, l, h => by simp [ordO] at h; subst h; exact List.nodup_nil
 | i + 1, l, h => by
  unfold ordO extO at h
  obtain ⟨l0, _, h2⟩ := List.mem_flatMap.1 h
  obtain ⟨x, hx, rfl⟩ := List.mem_map.1 h2
  exact nodupB_iff.1 (List.mem_filter.1 hx).2
theorem nodup_snoc {l : List Int} (h : l.Nodup) (x : Int) : nodupB (l ++ [x]) = decide (x ∉ l) := by
 rw [Bool.eq_iff_iff, nodupB_iff, decide_eq_true_eq, List.nodup_append]
 constructor
 ·intro hh hx; exact hh.2.2 x hx x (by simp) rfl
 ·intro hx; exact ⟨h, by simp, fun a ha b hb e => hx (by simp at hb; rw [← hb, ← e]; exact ha)⟩
theorem from_gen {α : Type} (F : List Int → List α) (now : List Int) (h : now.Nodup) : ∀ (L : List Int), (L.flatMap fun n => if n ∈ now then [] else F (now ++ [n])) = ((L.filter fun x => nodupB (now ++ [x])).map fun x => now ++ [x]).flatMap F
 | [] => rfl
 | x :: L => by
  rw [List.flatMap_cons, from_gen F now h L, List.filter_cons, nodup_snoc h]
  by_cases hx : x ∈ now
  ·simp [hx]
  ·simp [hx]
theorem from_step (hs : List Int) (f : Nat) (now : List Int) (h : now.Nodup) : ordersFrom hs (f + 1) now = ((hs.filter fun x => nodupB (now ++ [x])).map fun x => now ++ [x]).flatMap (ordersFrom hs f) := by
 show (hs.flatMap fun n => if n ∈ now then [] else ordersFrom hs f (now ++ [n])) = _
 exact from_gen _ now h hs
theorem flat_congr {α β : Type} {f g : α → List β} : ∀ {l : List α}, (∀ x, x ∈ l → f x = g x) → l.flatMap f = l.flatMap g
 | [], _ => rfl
 | x :: l, h => by rw [List.flatMap_cons, List.flatMap_cons, h x (by simp), flat_congr fun y hy => h y (by simp [hy])]
theorem ordO_from (n : Nat) : ∀ (i f : Nat), i + f = n → (ordO n i).flatMap (ordersFrom (numsOf n) f) = ordersOf (numsOf n)
 | 0, f, h => by
  have : f = (numsOf n).length := by rw [numsOf_length]; omega
  subst this
  simp [ordO, ordersOf]
 | i + 1, f, h => by
  rw [← ordO_from n i (f + 1) (by omega)]
  show (extO n (ordO n i)).flatMap _ = _
  unfold extO
  rw [List.flatMap_assoc]
  exact flat_congr fun l hl => (from_step _ _ _ (ordO_nodup n i l hl)).symm
theorem ordO_all (b : Book) : ordO b.goods.length b.goods.length = permsB b := by
 unfold permsB
 rw [← ordO_from b.goods.length b.goods.length 0 (by omega)]
 have : ∀ l : List (List Int), l.flatMap (ordersFrom (numsOf b.goods.length) 0) = l := fun l => by
  induction l with
  | nil => rfl
  | cons x l ih => rw [List.flatMap_cons, ih]; rfl
 rw [this]
/-- The rows that the specification makes: forward, back, and both together. -/
def rowF (b : Book) (e : Nat) : List Int := (permsB b).map fun l => if allowedB b e l then aheadB b e l else 0
def rowK (b : Book) (e : Nat) : List Int := (permsB b).map fun l => if allowedB b e l then afterB b e l else 0
def rowM (b : Book) (e : Nat) : List Int := (permsB b).map fun l => if allowedB b e l then manyB b e l else 0
theorem perms_nodupB {b : Book} {l : List Int} (h : l ∈ permsB b) : nodupB l = true := nodupB_iff.2 (perms_mem.1 h).2.1
theorem sum_if_congr {α : Type} {f g : α → Int} {l : List α} (h : ∀ x, x ∈ l → f x = g x) : (l.map f).sum = (l.map g).sum := sum_congr h
theorem rowF_step {b : Book} {e : Nat} (l : List Int) : ((permsB b).map fun x => if movedL x l ≤ b.moves then (if allowedB b e x then aheadB b e x else 0) else 0).sum = aheadB b (e + 1) l := by
 show _ = (((spB b e).filter (adjB b l)).map (aheadB b e)).sum
 rw [sum_filter]
 unfold spB
 rw [sum_filter]
 refine sum_congr fun x hx => ?_
 unfold suitsB adjB
 rw [perms_nodupB hx, movedL_comm l x, Bool.true_and]
 by_cases h1 : movedL x l ≤ b.moves <;> by_cases h2 : allowedB b e x = true <;> simp [h1, h2]
theorem rowK_step {b : Book} {e d : Nat} (l : List Int) : ((permsB b).map fun x => if movedL x l ≤ b.moves then (if allowedB b (e + 1 : Nat) x then backB b (e + 1) d x else 0) else 0).sum = backB b e (d + 1) l := by
 show _ = (((spB b (e + 1)).filter (adjB b l)).map (backB b (e + 1) d)).sum
 rw [sum_filter]
 unfold spB
 rw [sum_filter]
 refine sum_congr fun x hx => ?_
 unfold suitsB adjB
 rw [perms_nodupB hx, movedL_comm l x, Bool.true_and]
 by_cases h1 : movedL x l ≤ b.moves <;> by_cases h2 : allowedB b ((e + 1 : Nat) : Int) x = true <;> simp [h1]
theorem rowM_get {b : Book} {e i : Nat} {l : List Int} (h : (permsB b)[i]? = some l) : (rowM b e)[i]? = some (if allowedB b e l then manyB b e l else 0) := by unfold rowM; rw [List.getElem?_map, h]; rfl
theorem rowF_get {b : Book} {e i : Nat} {l : List Int} (h : (permsB b)[i]? = some l) : (rowF b e)[i]? = some (if allowedB b e l then aheadB b e l else 0) := by unfold rowF; rw [List.getElem?_map, h]; rfl
theorem rowK_get {b : Book} {e i : Nat} {l : List Int} (h : (permsB b)[i]? = some l) : (rowK b e)[i]? = some (if allowedB b e l then afterB b e l else 0) := by unfold rowK; rw [List.getElem?_map, h]; rfl
theorem row_mul {b : Book} {e : Nat} (l : List Int) : (if allowedB b e l then aheadB b e l else 0) * (if allowedB b e l then afterB b e l else 0) = if allowedB b e l then manyB b e l else 0 := by
 split
 ·rfl
 ·simp
theorem left_row (b : Book) (e : Nat) (n g : Int) : ((permsB b).map fun l => if l.getD n.toNat 0 = g then (if allowedB b e l then manyB b e l else 0) else 0).sum = leftB b e n g := by
 rw [left_sp, sum_filter]
 unfold spB
 rw [sum_filter]
 refine sum_congr fun x hx => ?_
 unfold suitsB
 rw [perms_nodupB hx, Bool.true_and]
 by_cases h1 : x.getD n.toNat 0 = g <;> by_cases h2 : allowedB b e x = true <;> simp [h2]
theorem truths_row {b : Book} (hB : BookB b) : (rowM b 0).sum = truthsB b := by
 have h1 := hB.e1
 rw [← truths_at (b := b) (e := 0) (by omega), pages_sum]
 unfold rowM spB
 rw [sum_filter]
 refine sum_congr fun x hx => ?_
 unfold suitsB
 rw [perms_nodupB hx, Bool.true_and]
/-- Sums as far as they are made. -/
def sumTo (f : List Int → Int) (b : Book) (k : Nat) : Int := (((permsB b).take k).map f).sum
theorem sumTo_zero (f : List Int → Int) (b : Book) : sumTo f b 0 = 0 := by simp [sumTo]
theorem sumTo_succ {f : List Int → Int} {b : Book} {k : Nat} {l : List Int} (h : (permsB b)[k]? = some l) : sumTo f b (k + 1) = sumTo f b k + f l := by
 unfold sumTo; rw [List.take_add_one, h, List.map_append, List.sum_append]; simp
theorem sumTo_all (f : List Int → Int) (b : Book) : sumTo f b (permsB b).length = ((permsB b).map f).sum := by unfold sumTo; rw [List.take_length]
theorem sumTo_bd {f : List Int → Int} {b : Book} {B : Int} (hf : ∀ l, 0 ≤ f l ∧ f l ≤ B) : ∀ k : Nat, 0 ≤ sumTo f b k ∧ sumTo f b k ≤ B * k := fun k => by
 unfold sumTo
 refine ⟨sum_nonneg fun l _ => (hf l).1, ?_⟩
 refine Int.le_trans (sum_le (g := fun _ => B) fun l _ => (hf l).2) ?_
 rw [sum_const, Int.mul_comm]
 have h0 := hf []
 exact Int.mul_le_mul_of_nonneg_left (by have := List.length_take_le k (permsB b); omega) (by omega)
end Go.Proofs.YtokananogogjaaaGreatDoor
