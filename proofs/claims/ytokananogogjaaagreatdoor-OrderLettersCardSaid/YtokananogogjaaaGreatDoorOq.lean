/- Pages, meanings, questions, one entry more, in plain Lean. -/
import Derived.Test.YtokananogogjaaaGreatDoorOb
namespace Go.Proofs.YtokananogogjaaaGreatDoor
/-! ### Sums -/
theorem sum_nonneg {α : Type} {f : α → Int} : ∀ {l : List α}, (∀ x, x ∈ l → 0 ≤ f x) → 0 ≤ (l.map f).sum
 | [], _ => by simp
 | a :: l, h => by
  have h1 := h a (by simp)
  have h2 := sum_nonneg (l := l) (f := f) (fun x hx => h x (by simp [hx]))
  simp only [List.map_cons, List.sum_cons]; omega
theorem sum_le {α : Type} {f g : α → Int} : ∀ {l : List α}, (∀ x, x ∈ l → f x ≤ g x) → (l.map f).sum ≤ (l.map g).sum
 | [], _ => by simp
 | a :: l, h => by
  have h1 := h a (by simp)
  have h2 := sum_le (l := l) (f := f) (g := g) (fun x hx => h x (by simp [hx]))
  simp only [List.map_cons, List.sum_cons]; omega
theorem sum_const {α : Type} (c : Int) : ∀ (l : List α), (l.map fun _ => c).sum = l.length * c
 | [] => by simp
 | a :: l => by simp only [List.map_cons, List.sum_cons, sum_const c l, List.length_cons]; rw [Int.natCast_add, Int.add_mul]; omega
theorem sum_congr {α : Type} {f g : α → Int} {l : List α} (h : ∀ x, x ∈ l → f x = g x) : (l.map f).sum = (l.map g).sum := by
 congr 1; exact List.map_congr_left h
theorem sum_add {α : Type} {f g : α → Int} : ∀ (l : List α), (l.map fun x => f x + g x).sum = (l.map f).sum + (l.map g).sum
 | [] => by simp
 | a :: l => by simp only [List.map_cons, List.sum_cons, sum_add l]; omega
theorem sum_mul {α : Type} {f : α → Int} (c : Int) : ∀ (l : List α), (l.map fun x => f x * c).sum = (l.map f).sum * c
 | [] => by simp
 | a :: l => by simp only [List.map_cons, List.sum_cons, sum_mul c l, Int.add_mul]
theorem mul_sum {α : Type} {f : α → Int} (c : Int) : ∀ (l : List α), (l.map fun x => c * f x).sum = c * (l.map f).sum
 | [] => by simp
 | a :: l => by simp only [List.map_cons, List.sum_cons, mul_sum c l, Int.mul_add]
theorem sum_zero {α : Type} : ∀ (l : List α), (l.map fun _ => (0 : Int)).sum = 0
 | [] => rfl
 | a :: l => by simp only [List.map_cons, List.sum_cons, sum_zero l]; rfl
theorem sum_swap {α β : Type} {f : α → β → Int} : ∀ (l : List α) (m : List β), (l.map fun x => (m.map fun y => f x y).sum).sum = (m.map fun y => (l.map fun x => f x y).sum).sum
 | [], m => by simp only [List.map_nil, List.sum_nil]; exact (sum_zero m).symm
 | a :: l, m => by simp only [List.map_cons, List.sum_cons, sum_swap l m, ← sum_add]
theorem sum_filter {α : Type} (p : α → Bool) (f : α → Int) : ∀ (l : List α), ((l.filter p).map f).sum = (l.map fun x => if p x then f x else 0).sum
 | [] => by simp
 | a :: l => by
  by_cases h : p a
  ·simp [h, sum_filter p f l]
  ·simp [h, sum_filter p f l]
theorem sum_filter_ne {α : Type} (f : α → Int) (l : List α) : ((l.filter fun x => !(f x == 0)).map f).sum = (l.map f).sum := by
 rw [sum_filter]
 refine sum_congr fun x _ => ?_
 by_cases h : f x = 0 <;> simp [h]
theorem le_sum {α : Type} {f : α → Int} : ∀ {l : List α} {x : α}, x ∈ l → (∀ y, y ∈ l → 0 ≤ f y) → f x ≤ (l.map f).sum
 | a :: l, x, hx, h => by
  simp only [List.map_cons, List.sum_cons]
  rcases List.mem_cons.1 hx with rfl | hx
  ·have := sum_nonneg (l := l) (f := f) (fun y hy => h y (by simp [hy])); omega
  ·have := le_sum (l := l) (f := f) hx (fun y hy => h y (by simp [hy])); have := h a (by simp); omega
/-! ### Pages -/
theorem numsOf_length (n : Nat) : (numsOf n).length = n := by simp [numsOf]
theorem numsOf_mem {n : Nat} {x : Int} : x ∈ numsOf n ↔ 0 ≤ x ∧ x < n := by
 unfold numsOf
 simp only [List.mem_map, List.mem_range]
 constructor
 ·rintro ⟨i, h, rfl⟩; omega
 ·intro h; exact ⟨x.toNat, by omega, by omega⟩
theorem numsOf_nodup (n : Nat) : (numsOf n).Nodup := by
 unfold numsOf
 rw [List.nodup_iff_pairwise_ne, List.pairwise_map]
 exact List.nodup_iff_pairwise_ne.1 List.nodup_range |>.imp fun h e => h (by omega)
theorem perms_mem {b : Book} {l : List Int} : l ∈ permsB b ↔ l.length = b.goods.length ∧ l.Nodup ∧ ∀ x, x ∈ l → 0 ≤ x ∧ x < b.goods.length := by
 unfold permsB ordersOf
 constructor
 ·intro h
  obtain ⟨h1, h2, h3⟩ := ordersFrom_mem h (by simp) (by simp)
  rw [numsOf_length] at h3
  exact ⟨by simpa using h3, h2, fun x hx => numsOf_mem.1 (h1 x hx)⟩
 ·rintro ⟨h1, h2, h3⟩
  rw [numsOf_length]
  have := ordersFrom_all (hs := numsOf b.goods.length) (f := b.goods.length) (now := []) (t := l) h1 (fun n hn => numsOf_mem.2 (h3 n hn)) (by simpa using h2)
  simpa using this
theorem ordersFrom_count {hs : List Int} : ∀ (f : Nat) (now : List Int), (ordersFrom hs f now).length ≤ hs.length ^ f
 | 0, now => by simp [ordersFrom]
 | f + 1, now => by
  simp only [ordersFrom, List.length_flatMap]
  have : ∀ l : List Int, (l.map fun n => (if n ∈ now then [] else ordersFrom hs f (now ++ [n])).length).sum ≤ l.length * hs.length ^ f := fun l => by
   induction l with
   | nil => simp
   | cons a l ih =>
    simp only [List.map_cons, List.sum_cons, List.length_cons, Nat.succ_mul]
    have : (if a ∈ now then [] else ordersFrom hs f (now ++ [a])).length ≤ hs.length ^ f := by
     split
     ·simp
     ·exact ordersFrom_count f _
    omega
  have h := this hs
  rw [Nat.pow_succ, Nat.mul_comm]; exact h
theorem perms_count {b : Book} (hB : BookB b) : (permsB b).length ≤ 3125 := by
 have h := ordersFrom_count (hs := numsOf b.goods.length) (numsOf b.goods.length).length []
 rw [numsOf_length] at h
 have : b.goods.length ^ b.goods.length ≤ 3125 := by
  have h2 := hB.g2; have h5 := hB.g5
  obtain h | h | h | h : b.goods.length = 2 ∨ b.goods.length = 3 ∨ b.goods.length = 4 ∨ b.goods.length = 5 := by omega
  all_goals rw [h]; decide
 unfold permsB ordersOf
 rw [numsOf_length]; omega
theorem sp_mem {b : Book} {e : Nat} {l : List Int} : l ∈ spB b e ↔ l ∈ permsB b ∧ suitsB b e l = true := by
 unfold spB; rw [List.mem_filter]
theorem sp_count {b : Book} (hB : BookB b) (e : Nat) : (spB b e).length ≤ 3125 := Nat.le_trans (List.length_filter_le _ _) (perms_count hB)
theorem adj_comm (b : Book) (l x : List Int) : adjB b l x = adjB b x l := by unfold adjB; rw [movedL_comm]
theorem ahead_nonneg (b : Book) : ∀ (e : Nat) (l : List Int), 0 ≤ aheadB b e l
 | 0, _ => by unfold aheadB; omega
 | e + 1, l => by unfold aheadB; exact sum_nonneg fun x _ => ahead_nonneg b e x
theorem back_nonneg (b : Book) : ∀ (d e : Nat) (l : List Int), 0 ≤ backB b e d l
 | 0, _, _ => by unfold backB; omega
 | d + 1, e, l => by unfold backB; exact sum_nonneg fun x _ => back_nonneg b d (e + 1) x
theorem many_nonneg (b : Book) (e : Nat) (l : List Int) : 0 ≤ manyB b e l := Int.mul_nonneg (ahead_nonneg b e l) (back_nonneg b _ _ l)
theorem ahead_le {b : Book} (hB : BookB b) : ∀ (e : Nat) (l : List Int), aheadB b e l ≤ 3125 ^ e
 | 0, _ => by simp [aheadB]
 | e + 1, l => by
  unfold aheadB
  refine Int.le_trans (sum_le (g := fun _ => 3125 ^ e) fun x _ => ahead_le hB e x) ?_
  rw [sum_const, Int.pow_succ, Int.mul_comm]
  refine Int.mul_le_mul_of_nonneg_left ?_ (Int.pow_nonneg (by omega))
  have := Nat.le_trans (List.length_filter_le (adjB b l) (spB b e)) (sp_count hB e); omega
theorem back_le {b : Book} (hB : BookB b) : ∀ (d e : Nat) (l : List Int), backB b e d l ≤ 3125 ^ d
 | 0, _, _ => by simp [backB]
 | d + 1, e, l => by
  unfold backB
  refine Int.le_trans (sum_le (g := fun _ => 3125 ^ d) fun x _ => back_le hB d (e + 1) x) ?_
  rw [sum_const, Int.pow_succ, Int.mul_comm]
  refine Int.mul_le_mul_of_nonneg_left ?_ (Int.pow_nonneg (by omega))
  have := Nat.le_trans (List.length_filter_le (adjB b l) (spB b (e + 1))) (sp_count hB (e + 1)); omega
/-- The number of truths, counted at any edition, is the same. -/
theorem total_step (b : Book) (e d : Nat) : ((spB b (e + 1)).map fun l => aheadB b (e + 1) l * backB b (e + 1) d l).sum = ((spB b e).map fun l => aheadB b e l * backB b e (d + 1) l).sum := by
 have h1 : ∀ l, aheadB b (e + 1) l * backB b (e + 1) d l = ((spB b e).map fun x => if adjB b l x then aheadB b e x * backB b (e + 1) d l else 0).sum := fun l => by
  show (((spB b e).filter (adjB b l)).map (aheadB b e)).sum * _ = _
  rw [← sum_mul, sum_filter]
 have h2 : ∀ x, aheadB b e x * backB b e (d + 1) x = ((spB b (e + 1)).map fun l => if adjB b l x then aheadB b e x * backB b (e + 1) d l else 0).sum := fun x => by
  show _ * (((spB b (e + 1)).filter (adjB b x)).map (backB b (e + 1) d)).sum = _
  rw [← mul_sum, sum_filter]
  exact sum_congr fun l _ => by rw [adj_comm]
 rw [sum_congr (fun l _ => h1 l), sum_congr (fun x _ => h2 x), sum_swap]
theorem total_at {b : Book} : ∀ (e : Nat), (e : Int) < b.editions → ((spB b e).map (manyB b e)).sum = ((spB b 0).map (manyB b 0)).sum
 | 0, _ => rfl
 | e + 1, h => by
  rw [← total_at e (by omega)]
  have h1 : b.editions.toNat - 1 - e = b.editions.toNat - 1 - (e + 1) + 1 := by omega
  have := total_step b e (b.editions.toNat - 1 - (e + 1))
  unfold manyB afterB
  rw [h1]; exact this
theorem pages_sum (b : Book) (e : Nat) : ((pageB b e).map (manyB b e)).sum = ((spB b e).map (manyB b e)).sum := sum_filter_ne _ _
theorem truths_at {b : Book} {e : Nat} (h : (e : Int) < b.editions) : ((pageB b e).map (manyB b e)).sum = truthsB b := by
 unfold truthsB; rw [pages_sum, pages_sum, total_at e h]
theorem page_mem {b : Book} {e : Nat} {l : List Int} : l ∈ pageB b e ↔ l ∈ spB b e ∧ 0 < manyB b e l := by
 unfold pageB
 rw [List.mem_filter]
 have := many_nonneg b e l
 simp; intro _; omega
theorem truths_pos {b : Book} (h : pageB b 0 ≠ []) : 0 < truthsB b := by
 cases hp : pageB b 0 with
 | nil => exact (h hp).elim
 | cons l t =>
  have hl : l ∈ pageB b 0 := by rw [hp]; simp
  have := le_sum (f := manyB b 0) hl (fun y _ => many_nonneg b 0 y)
  have := (page_mem.1 hl).2
  unfold truthsB; omega
theorem page_ne {b : Book} (h : pageB b 0 ≠ []) {e : Nat} (he : (e : Int) < b.editions) : pageB b e ≠ [] := fun h0 => by
 have := truths_at he; rw [h0] at this
 have := truths_pos h; simp at *; omega
/-! ### What is true -/
/-! ### Lists in increasing order, each number once -/
def insU (x : Int) : List Int → List Int
 | [] => [x]
 | y :: l => if x < y then x :: y :: l else if x = y then y :: l else y :: insU x l
def listedL : List Int → List Int
 | [] => []
 | x :: l => insU x (listedL l)
theorem insU_mem {x y : Int} : ∀ {l : List Int}, y ∈ insU x l ↔ y = x ∨ y ∈ l
 | [] => by simp [insU]
 | z :: l => by
  unfold insU
  split
  ·simp
  ·split
   ·rename_i h; subst h; simp
   ·simp only [List.mem_cons, insU_mem (l := l)]
    constructor <;> (rintro (h | h | h) <;> simp [h])
theorem insU_sorted {x : Int} : ∀ {l : List Int}, l.Pairwise (· < ·) → (insU x l).Pairwise (· < ·)
 | [], _ => by simp [insU]
 | z :: l, h => by
  rw [List.pairwise_cons] at h
  unfold insU
  split
  ·rename_i hx
   rw [List.pairwise_cons, List.pairwise_cons]
   refine ⟨fun y hy => ?_, h.1, h.2⟩
   rcases List.mem_cons.1 hy with rfl | hy
   ·exact hx
   ·have := h.1 y hy; omega
  ·split
   ·rw [List.pairwise_cons]; exact h
   ·rename_i h1 h2
    rw [List.pairwise_cons]
    refine ⟨fun y hy => ?_, insU_sorted h.2⟩
    rcases insU_mem.1 hy with rfl | hy
    ·omega
    ·exact h.1 y hy
theorem listedL_mem {y : Int} : ∀ {l : List Int}, y ∈ listedL l ↔ y ∈ l
 | [] => by simp [listedL]
 | x :: l => by unfold listedL; rw [insU_mem, listedL_mem (l := l)]; simp
theorem listedL_sorted : ∀ (l : List Int), (listedL l).Pairwise (· < ·)
 | [] => by simp [listedL]
 | x :: l => by unfold listedL; exact insU_sorted (listedL_sorted l)
/-- Two increasing lists with the same numbers are the same. -/
theorem sorted_ext : ∀ {a b : List Int}, a.Pairwise (· < ·) → b.Pairwise (· < ·) → (∀ x, x ∈ a ↔ x ∈ b) → a = b
 | [], [], _, _, _ => rfl
 | [], y :: b, _, _, h => by have := (h y).2 (by simp); simp at this
 | x :: a, [], _, _, h => by have := (h x).1 (by simp); simp at this
 | x :: a, y :: b, ha, hb, h => by
  rw [List.pairwise_cons] at ha hb
  have hxy : x = y := by
   have h1 := (h x).1 (by simp)
   have h2 := (h y).2 (by simp)
   rcases List.mem_cons.1 h1 with e | h1
   ·exact e
   rcases List.mem_cons.1 h2 with e | h2
   ·exact e.symm
   have := hb.1 x h1; have := ha.1 y h2; omega
  subst hxy
  congr 1
  refine sorted_ext ha.2 hb.2 fun z => ⟨fun hz => ?_, fun hz => ?_⟩
  ·rcases List.mem_cons.1 ((h z).1 (List.mem_cons_of_mem _ hz)) with e | h1
   ·have := ha.1 z hz; omega
   ·exact h1
  ·rcases List.mem_cons.1 ((h z).2 (List.mem_cons_of_mem _ hz)) with e | h1
   ·have := hb.1 z hz; omega
   ·exact h1
theorem listedL_eq {l s : List Int} (h1 : s.Pairwise (· < ·)) (h2 : ∀ x, x ∈ s ↔ x ∈ l) : listedL l = s :=
 sorted_ext (listedL_sorted l) h1 fun x => by rw [listedL_mem, h2]
/-! ### What numbers mean -/
def meansB (b : Book) (e : Nat) (n : Int) : List Int := listedL ((pageB b e).map fun l => l.getD n.toNat 0)
/-- The first place of a number in a list (its length, if it is not there). -/
def idxL (y : Int) : List Int → Int
 | [] => 0
 | x :: l => if x = y then 0 else 1 + idxL y l
def numbersB (b : Book) (e : Nat) (g : Int) : List Int := listedL ((pageB b e).map fun l => idxL g l)
def leftB (b : Book) (e : Nat) (n g : Int) : Int := (((pageB b e).filter fun l => l.getD n.toNat 0 == g).map (manyB b e)).sum
theorem page_perm {b : Book} {e : Nat} {l : List Int} (h : l ∈ pageB b e) : l ∈ permsB b := (sp_mem.1 (page_mem.1 h).1).1
theorem idxL_bd (y : Int) : ∀ l : List Int, 0 ≤ idxL y l ∧ idxL y l ≤ l.length
 | [] => by simp [idxL]
 | x :: l => by have := idxL_bd y l; unfold idxL; simp only [List.length_cons]; split <;> omega
/-- In an order of all numbers below n each of them stands. -/
theorem perm_has {l : List Int} {n : Nat} (h1 : l.length = n) (h2 : l.Nodup) (h3 : ∀ x, x ∈ l → 0 ≤ x ∧ x < n) {g : Int} (g0 : 0 ≤ g) (g1 : g < n) : g ∈ l := by
 have hsub : ∀ x, x ∈ l → x ∈ numsOf n := fun x hx => numsOf_mem.2 (h3 x hx)
 have key : ∀ (l m : List Int), l.Nodup → m.Nodup → (∀ x, x ∈ l → x ∈ m) → m.length ≤ l.length → ∀ x, x ∈ m → x ∈ l := by
  intro l
  induction l with
  | nil => intro m _ _ _ hlen x hx; cases m with
   | nil => exact hx
   | cons y m => simp at hlen
  | cons a l ih =>
   intro m hl hm hs hlen x hx
   rw [List.nodup_cons] at hl
   by_cases e : x = a
   ·simp [e]
   ·refine List.mem_cons_of_mem _ (ih (m.erase a) hl.2 (hm.erase a) (fun y hy => ?_) ?_ x ?_)
    ·exact (List.mem_erase_of_ne (fun e => hl.1 (by rw [← e]; exact hy))).2 (hs y (by simp [hy]))
    ·rw [List.length_erase_of_mem (hs a (by simp))]; simp at hlen; omega
    ·exact (List.mem_erase_of_ne e).2 hx
 exact key l (numsOf n) h2 (numsOf_nodup n) hsub (by rw [numsOf_length]; omega) g (numsOf_mem.2 ⟨g0, g1⟩)
/-! ### Questions -/
def maxL : List Int → Int
 | [] => 0
 | x :: l => l.foldl max x
def worstB (b : Book) (e : Nat) (n : Int) : Int := maxL ((numsOf b.goods.length).map (leftB b e n))
def questions (b : Book) : List (Int × Int × Int) := (numsOf b.editions.toNat).flatMap fun e => (numsOf b.goods.length).map fun n => (e, n, worstB b e.toNat n)
/-- The first of some things than which none is better. -/
def bestOf {α : Type} (lt : α → α → Bool) : List α → Option α
 | [] => none
 | x :: l => some (l.foldl (fun out y => if lt y out then y else out) x)
def askB (b : Book) : Int × Int × Int := (bestOf (fun x y => decide (x.2.2 < y.2.2)) (questions b)).getD (0, 0, 0)
/-! ### One entry more -/
theorem left_le {b : Book} {e : Nat} (he : (e : Int) < b.editions) (n g : Int) : leftB b e n g ≤ truthsB b := by
 rw [← truths_at he]
 unfold leftB
 rw [sum_filter]
 refine sum_le fun l _ => ?_
 have := many_nonneg b e l
 split <;> omega
/-! ### Maxima -/
/-! ### The best question -/
theorem quest_len (b : Book) : (questions b).length = b.editions.toNat * b.goods.length := by
 unfold questions
 rw [List.length_flatMap]
 have : ∀ l : List Int, (l.map fun e => ((numsOf b.goods.length).map fun n => (e, n, worstB b e.toNat n)).length).sum = l.length * b.goods.length := fun l => by
  induction l with
  | nil => simp
  | cons a l ih => rw [List.map_cons, List.sum_cons, ih, List.length_map, numsOf_length, List.length_cons, Nat.succ_mul]; omega
 rw [this, numsOf_length]
theorem flatMap_at' {α β : Type} (f : α → List β) (n : Nat) (hn : ∀ x, (f x).length = n) : ∀ (l : List α) (i j : Nat) (x : α), l[i]? = some x → j < n → (l.flatMap f)[i * n + j]? = (f x)[j]?
 | [], i, j, x, h, _ => by simp at h
 | y :: l, 0, j, x, h, hj => by
  simp at h; subst h
  simp only [List.flatMap_cons, Nat.zero_mul, Nat.zero_add]
  rw [List.getElem?_append_left (by rw [hn]; exact hj)]
 | y :: l, i + 1, j, x, h, hj => by
  simp only [List.flatMap_cons]
  rw [List.getElem?_append_right (by rw [hn, Nat.succ_mul]; omega), hn]
  rw [show (i + 1) * n + j - n = i * n + j from by rw [Nat.succ_mul]; omega]
  exact flatMap_at' f n hn l i j x (by simpa using h) hj
theorem numsOf_get {n i : Nat} (h : i < n) : (numsOf n)[i]? = some (i : Int) := by simp [numsOf, h]
theorem quest_at {b : Book} {e n : Nat} (he : (e : Int) < b.editions) (hn : n < b.goods.length) : (questions b)[e * b.goods.length + n]? = some ((e : Int), (n : Int), worstB b e n) := by
 unfold questions
 rw [flatMap_at' _ b.goods.length (fun x => by rw [List.length_map, numsOf_length]) _ e n (e : Int) (numsOf_get (by omega)) hn, List.getElem?_map, numsOf_get hn]
 rfl
/-! ### Fewer moves, one entry more -/
end Go.Proofs.YtokananogogjaaaGreatDoor

/- Lists compared; the best packs, in plain Lean. -/
namespace Go.Proofs.YtokananogogjaaaGreatDoor
/-! ### Lists compared -/
def cmpL : List Int → List Int → Int
 | [], [] => 0
 | [], _ :: _ => -1
 | _ :: _, [] => 1
 | x :: a, y :: b => if x < y then -1 else if y < x then 1 else cmpL a b
theorem cmpL_flip : ∀ a b, cmpL b a = - cmpL a b
 | [], [] => rfl
 | [], _ :: _ => rfl
 | _ :: _, [] => rfl
 | x :: a, y :: b => by
  unfold cmpL
  by_cases h1 : x < y
  ·rw [if_neg (by omega), if_pos h1, if_pos h1]; rfl
  ·by_cases h2 : y < x
   ·rw [if_pos h2, if_neg h1, if_pos h2]
   ·rw [if_neg h2, if_neg h1, if_neg h1, if_neg h2]; exact cmpL_flip a b
theorem cmpL_trans : ∀ {a b c : List Int}, cmpL a b ≤ 0 → cmpL b c ≤ 0 → cmpL a c ≤ 0
 | [], [], c, _, h => h
 | [], _ :: _, [], _, _ => by simp [cmpL]
 | [], _ :: _, _ :: _, _, _ => by simp [cmpL]
 | x :: a, [], c, h, _ => by simp [cmpL] at h
 | x :: a, y :: b, [], _, h => by simp [cmpL] at h
 | x :: a, y :: b, z :: c, h1, h2 => by
  unfold cmpL at *
  by_cases hxy : x < y
  ·by_cases hyz : y < z
   ·rw [if_pos (by omega)]; omega
   ·by_cases hzy : z < y
    ·rw [if_neg hyz, if_pos hzy] at h2; omega
    ·rw [if_pos (by omega)]; omega
  ·by_cases hyx : y < x
   ·rw [if_neg hxy, if_pos hyx] at h1; omega
   ·rw [if_neg hxy, if_neg hyx] at h1
    have e : x = y := by omega
    subst e
    by_cases hyz : x < z
    ·rw [if_pos hyz]; omega
    ·by_cases hzy : z < x
     ·rw [if_neg hyz, if_pos hzy] at h2; omega
     ·rw [if_neg hyz, if_neg hzy] at h2
      rw [if_neg hyz, if_neg hzy]; exact cmpL_trans h1 h2
/-! ### The first of some things than which none is better -/
structure Order {α : Type} (lt : α → α → Bool) : Prop where
 asym : ∀ x y, lt x y = true → lt y x = false
 trans : ∀ x y z, lt y x = false → lt z y = false → lt z x = false
theorem fold_best {α : Type} {lt : α → α → Bool} (H : Order lt) : ∀ (l : List α) (x : α), (l.foldl (fun out y => if lt y out then y else out) x = x ∨ l.foldl (fun out y => if lt y out then y else out) x ∈ l) ∧
  lt x (l.foldl (fun out y => if lt y out then y else out) x) = false ∧ ∀ y, y ∈ l → lt y (l.foldl (fun out y => if lt y out then y else out) x) = false
 | [], x => by
  refine ⟨.inl rfl, ?_, fun y h => by simp at h⟩
  cases h : lt x x with
  | false => exact h
  | true => have := H.asym x x h; rw [h] at this; cases this
 | y :: l, x => by
  simp only [List.foldl_cons]
  cases h : lt y x with
  | true =>
   simp only [if_true]
   obtain ⟨h1, h2, h3⟩ := fold_best H l y
   refine ⟨.inr ?_, H.trans _ y _ h2 (H.asym _ _ h), fun z hz => ?_⟩
   ·rcases h1 with h1 | h1
    ·rw [h1]; simp
    ·exact List.mem_cons_of_mem _ h1
   ·rcases List.mem_cons.1 hz with rfl | hz
    ·exact h2
    ·exact h3 z hz
  | false =>
   simp only [Bool.false_eq_true, if_false]
   obtain ⟨h1, h2, h3⟩ := fold_best H l x
   refine ⟨?_, h2, fun z hz => ?_⟩
   ·rcases h1 with h1 | h1
    ·exact .inl h1
    ·exact .inr (List.mem_cons_of_mem _ h1)
   ·rcases List.mem_cons.1 hz with rfl | hz
    ·exact H.trans _ x _ h2 h
    ·exact h3 z hz
theorem best_of {α : Type} {lt : α → α → Bool} (H : Order lt) {l : List α} (h : l ≠ []) : ∃ x, bestOf lt l = some x ∧ x ∈ l ∧ ∀ y, y ∈ l → lt y x = false := by
 cases l with
 | nil => exact (h rfl).elim
 | cons a l =>
  obtain ⟨h1, h2, h3⟩ := fold_best H l a
  refine ⟨_, rfl, ?_, fun y hy => ?_⟩
  ·rcases h1 with h1 | h1
   ·rw [h1]; simp
   ·exact List.mem_cons_of_mem _ h1
  ·rcases List.mem_cons.1 hy with rfl | hy
   ·exact h2
   ·exact h3 y hy
/-! ### Packs -/
abbrev Pk := List Int × Int
def cmpPk (a b : Pk) : Int := if a.2 < b.2 then -1 else if b.2 < a.2 then 1 else if a.1.sum < b.1.sum then -1 else if b.1.sum < a.1.sum then 1 else cmpL a.1 b.1
def ltPk (a b : Pk) : Bool := decide (cmpPk a b < 0)
theorem cmpPk_flip (a b : Pk) : cmpPk b a = - cmpPk a b := by
 unfold cmpPk
 rw [cmpL_flip a.1 b.1]
 by_cases h1 : a.2 < b.2
 ·rw [if_neg (by omega), if_pos h1, if_pos h1]; rfl
 ·rw [if_neg h1, if_neg h1]
  by_cases h2 : b.2 < a.2
  ·rw [if_pos h2, if_pos h2]
  ·rw [if_neg h2, if_neg h2]
   by_cases h3 : a.1.sum < b.1.sum
   ·rw [if_neg (by omega), if_pos h3, if_pos h3]; rfl
   ·rw [if_neg h3, if_neg h3]
    by_cases h4 : b.1.sum < a.1.sum
    ·rw [if_pos h4, if_pos h4]
    ·rw [if_neg h4, if_neg h4]
theorem cmpPk_le {a b : Pk} : cmpPk a b ≤ 0 ↔ a.2 < b.2 ∨ a.2 = b.2 ∧ (a.1.sum < b.1.sum ∨ a.1.sum = b.1.sum ∧ cmpL a.1 b.1 ≤ 0) := by
 unfold cmpPk
 by_cases h1 : a.2 < b.2
 ·rw [if_pos h1]; constructor
  ·intro _; exact .inl h1
  ·intro _; omega
 ·rw [if_neg h1]
  by_cases h2 : b.2 < a.2
  ·rw [if_pos h2]; omega
  ·rw [if_neg h2]
   by_cases h3 : a.1.sum < b.1.sum
   ·rw [if_pos h3]; omega
   ·rw [if_neg h3]
    by_cases h4 : b.1.sum < a.1.sum
    ·rw [if_pos h4]; omega
    ·rw [if_neg h4]; omega
theorem cmpPk_trans {a b c : Pk} (h1 : cmpPk a b ≤ 0) (h2 : cmpPk b c ≤ 0) : cmpPk a c ≤ 0 := by
 rw [cmpPk_le] at *
 rcases h1 with h1 | ⟨e1, h1⟩
 ·rcases h2 with h2 | ⟨e2, h2⟩ <;> (left; omega)
 ·rcases h2 with h2 | ⟨e2, h2⟩
  ·left; omega
  ·refine .inr ⟨by omega, ?_⟩
   rcases h1 with h1 | ⟨f1, h1⟩
   ·rcases h2 with h2 | ⟨f2, h2⟩ <;> (left; omega)
   ·rcases h2 with h2 | ⟨f2, h2⟩
    ·left; omega
    ·exact .inr ⟨by omega, cmpL_trans h1 h2⟩
theorem ltPk_false {a b : Pk} : ltPk a b = false ↔ cmpPk b a ≤ 0 := by
 unfold ltPk; rw [decide_eq_false_iff_not, cmpPk_flip a b]; omega
theorem ltPk_order : Order ltPk where
 asym x y h := by
  rw [ltPk_false]; unfold ltPk at h; simp at h; omega
 trans x y z h1 h2 := by rw [ltPk_false] at *; exact cmpPk_trans h1 h2
/-- Packs with one of a kind more. -/
def addPk (i : Nat) (price : Int) (r : Pk) : Pk := (r.1.set i (r.1.getD i 0 + 1), r.2 + price)
theorem sum_set : ∀ {a : List Int} {i : Nat}, i < a.length → (a.set i (a.getD i 0 + 1)).sum = a.sum + 1
 | [], i, h => by simp at h
 | x :: a, 0, _ => by simp; omega
 | x :: a, i + 1, h => by simp only [List.set_cons_succ, List.getD_cons_succ, List.sum_cons, sum_set (a := a) (i := i) (by simpa using h)]; omega
/-- What comes of taking one of each kind more: ks, from number i on; f: the best packs for what remains. -/
def candFrom (f : Int → Pk) : Nat → List (Int × Int) → List Pk
 | _, [] => []
 | i, k :: ks => addPk i k.2 (f k.1) :: candFrom f (i + 1) ks
theorem cand_length (f : Int → Pk) : ∀ (ks : List (Int × Int)) (i : Nat), (candFrom f i ks).length = ks.length
 | [], _ => rfl
 | k :: ks, i => by simp [candFrom, cand_length f ks (i + 1)]
theorem cand_get (f : Int → Pk) : ∀ (ks : List (Int × Int)) (i j : Nat) (k : Int × Int), ks[j]? = some k → (candFrom f i ks)[j]? = some (addPk (i + j) k.2 (f k.1))
 | [], i, j, k, h => by simp at h
 | k0 :: ks, i, 0, k, h => by simp at h; subst h; rfl
 | k0 :: ks, i, j + 1, k, h => by
  have := cand_get f ks (i + 1) j k (by simpa using h)
  simp only [candFrom, List.getElem?_cons_succ, this]
  rw [show i + 1 + j = i + (j + 1) by omega]
theorem cand_mem {f : Int → Pk} {ks : List (Int × Int)} {x : Pk} (h : x ∈ candFrom f 0 ks) : ∃ (j : Nat) (k : Int × Int), ks[j]? = some k ∧ x = addPk j k.2 (f k.1) := by
 obtain ⟨j, hj⟩ := List.getElem?_of_mem h
 have hl := (List.getElem?_eq_some_iff.1 hj).1
 rw [cand_length] at hl
 have := cand_get f ks 0 j ks[j] (by simp [hl])
 rw [hj] at this
 exact ⟨j, ks[j], by simp [hl], by simpa using this⟩
theorem cand_congr {f g : Int → Pk} : ∀ {ks : List (Int × Int)} {i : Nat}, (∀ k, k ∈ ks → f k.1 = g k.1) → candFrom f i ks = candFrom g i ks
 | [], _, _ => rfl
 | k :: ks, i, h => by simp only [candFrom]; rw [h k (by simp), cand_congr (fun x hx => h x (by simp [hx]))]
def zeroPk (ks : List (Int × Int)) : Pk := (List.replicate ks.length 0, 0)
def tabPk (ks : List (Int × Int)) : Nat → List Pk
 | 0 => [zeroPk ks]
 | n + 1 => tabPk ks n ++ [(bestOf ltPk (candFrom (fun h => (tabPk ks n).getD (n + 1 - h.toNat) (zeroPk ks)) 0 ks)).getD (zeroPk ks)]
def pkAt (ks : List (Int × Int)) (n : Nat) : Pk := (tabPk ks n).getD n (zeroPk ks)
theorem tab_length (ks : List (Int × Int)) : ∀ n, (tabPk ks n).length = n + 1
 | 0 => rfl
 | n + 1 => by simp [tabPk, tab_length ks n]
theorem tab_at (ks : List (Int × Int)) : ∀ (n i : Nat), i ≤ n → (tabPk ks n)[i]? = some (pkAt ks i)
 | 0, i, h => by
  have : i = 0 := by omega
  subst this; rfl
 | n + 1, i, h => by
  by_cases hi : i ≤ n
  ·simp only [tabPk]
   rw [List.getElem?_append_left (by rw [tab_length]; omega)]
   exact tab_at ks n i hi
  ·have : i = n + 1 := by omega
   subst this
   unfold pkAt
   rw [List.getD_eq_getElem?_getD]
   have : n + 1 < (tabPk ks (n + 1)).length := by rw [tab_length]; omega
   rw [List.getElem?_eq_getElem this]; rfl
def isPacksB (ks : List (Int × Int)) : Bool := inB ks.length 1 4 && !(ks.any fun k => !inB k.1 1 144 || !inB k.2 0 1000)
structure PacksB (ks : List (Int × Int)) : Prop where
 n1 : 1 ≤ ks.length
 n4 : ks.length ≤ 4
 all : ∀ k, k ∈ ks → 1 ≤ k.1 ∧ k.1 ≤ 144 ∧ 0 ≤ k.2 ∧ k.2 ≤ 1000
theorem packsB_iff {ks : List (Int × Int)} : isPacksB ks = true ↔ PacksB ks := by
 unfold isPacksB
 rw [Bool.and_eq_true, inB_iff, Bool.not_eq_true', List.any_eq_false]
 constructor
 ·rintro ⟨h1, h2⟩
  refine ⟨by omega, by omega, fun k hk => ?_⟩
  have := h2 k hk
  rw [Bool.or_eq_true, not_or, Bool.not_eq_true', Bool.not_eq_true', Bool.not_eq_false, Bool.not_eq_false, inB_iff, inB_iff] at this
  omega
 ·intro h
  refine ⟨by have := h.n1; have := h.n4; omega, fun k hk => ?_⟩
  have := h.all k hk
  rw [Bool.or_eq_true, not_or, Bool.not_eq_true', Bool.not_eq_true', Bool.not_eq_false, Bool.not_eq_false, inB_iff, inB_iff]
  omega
theorem pkAt_zero (ks : List (Int × Int)) : pkAt ks 0 = zeroPk ks := rfl
theorem pkAt_succ {ks : List (Int × Int)} (hK : PacksB ks) (n : Nat) : bestOf ltPk (candFrom (fun h => pkAt ks (n + 1 - h.toNat)) 0 ks) = some (pkAt ks (n + 1)) := by
 have h1 : candFrom (fun h => (tabPk ks n).getD (n + 1 - h.toNat) (zeroPk ks)) 0 ks = candFrom (fun h => pkAt ks (n + 1 - h.toNat)) 0 ks := cand_congr fun k hk => by
  have := hK.all k hk
  rw [List.getD_eq_getElem?_getD, tab_at ks n _ (by omega)]; rfl
 have hne : candFrom (fun h => pkAt ks (n + 1 - h.toNat)) 0 ks ≠ [] := fun e => by
  have := cand_length (fun h => pkAt ks (n + 1 - h.toNat)) ks 0
  rw [e] at this; have := hK.n1; simp at *; omega
 obtain ⟨x, hx, _⟩ := best_of ltPk_order hne
 have : pkAt ks (n + 1) = (bestOf ltPk (candFrom (fun h => (tabPk ks n).getD (n + 1 - h.toNat) (zeroPk ks)) 0 ks)).getD (zeroPk ks) := by
  conv => lhs; unfold pkAt
  simp only [tabPk]
  rw [List.getD_eq_getElem?_getD, List.getElem?_append_right (by rw [tab_length]; omega), tab_length]; simp
 rw [this, h1, hx]; rfl
/-- Counts, and what they hold and cost. -/
def holdsOf : List (Int × Int) → List Int → Int
 | k :: ks, c :: cs => c * k.1 + holdsOf ks cs
 | _, _ => 0
def priceOf : List (Int × Int) → List Int → Int
 | k :: ks, c :: cs => c * k.2 + priceOf ks cs
 | _, _ => 0
theorem holds_set : ∀ {ks : List (Int × Int)} {cs : List Int} {i : Nat} {k : Int × Int} (d : Int), ks[i]? = some k → ks.length = cs.length → holdsOf ks (cs.set i (cs.getD i 0 + d)) = holdsOf ks cs + d * k.1 ∧ priceOf ks (cs.set i (cs.getD i 0 + d)) = priceOf ks cs + d * k.2
 | [], cs, i, k, d, h, _ => by simp at h
 | k0 :: ks, [], i, k, d, _, h => by simp at h
 | k0 :: ks, c :: cs, 0, k, d, h, _ => by
  simp at h; subst h
  simp only [List.set_cons_zero, List.getD_cons_zero, holdsOf, priceOf, Int.add_mul]; omega
 | k0 :: ks, c :: cs, i + 1, k, d, h, hl => by
  have := holds_set (ks := ks) (cs := cs) (i := i) (k := k) d (by simpa using h) (by simpa using hl)
  simp only [List.set_cons_succ, List.getD_cons_succ, holdsOf, priceOf, this.1, this.2]; omega
structure Taken (ks : List (Int × Int)) (c : List Int) : Prop where
 len : c.length = ks.length
 pos : ∀ x, x ∈ c → 0 ≤ x
theorem holds_nonneg : ∀ {ks : List (Int × Int)} {c : List Int}, (∀ k, k ∈ ks → 0 ≤ k.1 ∧ 0 ≤ k.2) → (∀ x, x ∈ c → 0 ≤ x) → 0 ≤ holdsOf ks c ∧ 0 ≤ priceOf ks c
 | [], c, _, _ => by simp [holdsOf, priceOf]
 | _ :: _, [], _, _ => by simp [holdsOf, priceOf]
 | k :: ks, x :: c, hk, hc => by
  have h1 := holds_nonneg (ks := ks) (c := c) (fun k hk' => hk k (by simp [hk'])) (fun x hx => hc x (by simp [hx]))
  have h2 := Int.mul_nonneg (hc x (by simp)) (hk k (by simp)).1
  have h3 := Int.mul_nonneg (hc x (by simp)) (hk k (by simp)).2
  simp only [holdsOf, priceOf]; omega
theorem holds_zero : ∀ {ks : List (Int × Int)} {c : List Int}, (∀ x, x ∈ c → x = 0) → holdsOf ks c = 0 ∧ priceOf ks c = 0
 | [], c, _ => by simp [holdsOf, priceOf]
 | _ :: _, [], _ => by simp [holdsOf, priceOf]
 | k :: ks, x :: c, h => by
  have h1 := holds_zero (ks := ks) (c := c) (fun y hy => h y (by simp [hy]))
  have h0 := h x (by simp)
  simp only [holdsOf, priceOf, h1.1, h1.2, h0]; omega
theorem sum_nonneg' : ∀ {c : List Int}, (∀ x, x ∈ c → 0 ≤ x) → 0 ≤ c.sum
 | [], _ => by simp
 | x :: c, h => by have := sum_nonneg' (c := c) (fun y hy => h y (by simp [hy])); have := h x (by simp); simp only [List.sum_cons]; omega
theorem le_sum' : ∀ {c : List Int} {x : Int}, (∀ x, x ∈ c → 0 ≤ x) → x ∈ c → x ≤ c.sum
 | y :: c, x, h, hx => by
  have h1 := sum_nonneg' (c := c) (fun y hy => h y (by simp [hy]))
  have h2 := h y (by simp)
  simp only [List.sum_cons]
  rcases List.mem_cons.1 hx with rfl | hx
  ·omega
  ·have := le_sum' (fun y hy => h y (by simp [hy])) hx; omega
/-- What the best packs are. -/
structure PkOk (ks : List (Int × Int)) (n : Nat) (r : Pk) : Prop where
 tak : Taken ks r.1
 holds : (n : Int) ≤ holdsOf ks r.1
 price : r.2 = priceOf ks r.1
 many : r.1.sum ≤ n
theorem set_mem {c : List Int} {i : Nat} {v x : Int} (h : x ∈ c.set i v) : x = v ∨ x ∈ c := by
 rcases List.mem_or_eq_of_mem_set h with h | h
 ·exact .inr h
 ·exact .inl h
theorem getD_mem {c : List Int} {i : Nat} (h : i < c.length) : c.getD i 0 ∈ c := by
 rw [List.getD_eq_getElem?_getD, List.getElem?_eq_getElem h]; exact List.getElem_mem _
theorem pk_ok {ks : List (Int × Int)} (hK : PacksB ks) : ∀ n : Nat, PkOk ks n (pkAt ks n) := by
 intro n
 induction n using Nat.strongRecOn with
 | ind n ih =>
  match n with
  | 0 =>
   rw [pkAt_zero]
   have hz : ∀ x, x ∈ (zeroPk ks).1 → x = 0 := fun x hx => by unfold zeroPk at hx; exact (List.mem_replicate.1 hx).2
   have h0 := holds_zero (ks := ks) hz
   refine ⟨⟨by unfold zeroPk; simp, fun x hx => by rw [hz x hx]; omega⟩, by rw [h0.1]; simp, by rw [h0.2]; rfl, ?_⟩
   have : (zeroPk ks).1.sum = 0 := by
    unfold zeroPk; simp
   rw [this]; simp
  | n + 1 =>
   obtain ⟨x, hx, hxm, _⟩ := best_of ltPk_order (l := candFrom (fun h => pkAt ks (n + 1 - h.toNat)) 0 ks) (fun e => by
    have := pkAt_succ hK n; rw [e] at this; simp [bestOf] at this)
   rw [pkAt_succ hK n] at hx
   have hx' : pkAt ks (n + 1) = x := by simpa using hx
   obtain ⟨j, k, hk, rfl⟩ := cand_mem hxm
   have hkb := hK.all k (List.mem_of_getElem? hk)
   have hi := ih (n + 1 - k.1.toNat) (by omega)
   have hj : j < ks.length := (List.getElem?_eq_some_iff.1 hk).1
   rw [hx']
   generalize pkAt ks (n + 1 - k.1.toNat) = r at *
   have hjr : j < r.1.length := by rw [hi.tak.len]; exact hj
   have hs := holds_set (cs := r.1) (1 : Int) hk hi.tak.len.symm
   have hh := hi.holds
   have hm := hi.many
   refine ⟨⟨by unfold addPk; simp [hi.tak.len], fun y hy => ?_⟩, ?_, ?_, ?_⟩
   ·rcases set_mem hy with rfl | hy
    ·have := hi.tak.pos _ (getD_mem hjr); omega
    ·exact hi.tak.pos y hy
   ·show _ ≤ holdsOf ks (r.1.set j (r.1.getD j 0 + 1)); rw [hs.1]; omega
   ·show r.2 + k.2 = priceOf ks (r.1.set j (r.1.getD j 0 + 1)); rw [hs.2, hi.price]; omega
   ·show (r.1.set j (r.1.getD j 0 + 1)).sum ≤ _; rw [sum_set hjr]; omega
end Go.Proofs.YtokananogogjaaaGreatDoor
