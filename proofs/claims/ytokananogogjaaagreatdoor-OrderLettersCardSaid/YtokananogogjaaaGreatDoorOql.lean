/- Plain laws of pages that known does not need. -/
import Derived.Test.YtokananogogjaaaGreatDoorOq
namespace Go.Proofs.YtokananogogjaaaGreatDoor
open Go.RowKit
theorem two_le_sum {α : Type} {f : α → Int} : ∀ {l : List α} {x y : α}, x ∈ l → y ∈ l → x ≠ y → (∀ y, y ∈ l → 0 ≤ f y) → f x + f y ≤ (l.map f).sum
 | a :: l, x, y, hx, hy, hn, h => by
  simp only [List.map_cons, List.sum_cons]
  have h0 := h a (by simp)
  have hl := fun y hy => h y (List.mem_cons_of_mem a hy)
  rcases List.mem_cons.1 hx with e | hx
  ·rcases List.mem_cons.1 hy with e2 | hy
   ·exact (hn (e.trans e2.symm)).elim
   ·have := le_sum (f := f) hy hl; rw [e]; omega
  ·rcases List.mem_cons.1 hy with e2 | hy
   ·have := le_sum (f := f) hx hl; rw [e2]; omega
   ·have := two_le_sum (f := f) hx hy hn hl; omega
theorem sum_pos {α : Type} {f : α → Int} {l : List α} (h : ∀ y, y ∈ l → 0 ≤ f y) (hp : 0 < (l.map f).sum) : ∃ x, x ∈ l ∧ 0 < f x := by
 induction l with
 | nil => simp at hp
 | cons a l ih =>
  simp only [List.map_cons, List.sum_cons] at hp
  by_cases h0 : 0 < f a
  ·exact ⟨a, by simp, h0⟩
  ·have := h a (by simp)
   obtain ⟨x, hx, h1⟩ := ih (fun y hy => h y (by simp [hy])) (by omega)
   exact ⟨x, by simp [hx], h1⟩
theorem perms_nodup (b : Book) : (permsB b).Nodup := ordersFrom_nodup (numsOf_nodup _) _ _
theorem truths_zero {b : Book} (h : pageB b 0 = []) : truthsB b = 0 := by unfold truthsB; rw [h]; rfl
structure FitsP (b : Book) (t : List (List Int)) : Prop where
 len : (t.length : Int) = b.editions
 row : ∀ e, e < t.length → t.getD e [] ∈ spB b e
 adj : ∀ e, e + 1 < t.length → adjB b (t.getD e []) (t.getD (e + 1) []) = true
theorem fits_of {b : Book} {t : List (List Int)} (h1 : isMeansB b t = true) (h2 : fitsB b t = true) : FitsP b t := by
 unfold isMeansB at h1
 rw [Bool.and_eq_true, decide_eq_true_eq, Bool.not_eq_true', List.any_eq_false] at h1
 unfold fitsB at h2
 rw [List.all_eq_true] at h2
 refine ⟨h1.1, fun e he => ?_, fun e he => ?_⟩
 ·have h := h2 e (by simpa using he)
  unfold fitB at h
  rw [Bool.and_eq_true] at h
  have hr := h1.2 (t.getD e []) (by rw [List.getD_eq_getElem?_getD, List.getElem?_eq_getElem he]; simp)
  unfold badRow at hr
  simp only [Bool.or_eq_true, not_or, decide_eq_true_eq, Decidable.not_not, List.any_eq_true, Bool.not_eq_true', not_exists, not_and, Bool.not_eq_false] at hr
  refine sp_mem.2 ⟨perms_mem.2 ⟨by omega, ?_, fun x hx => ?_⟩, h.1⟩
  ·have := h.1; unfold suitsB at this; rw [Bool.and_eq_true] at this; exact nodupB_iff.1 this.1
  ·have := inB_iff.1 (hr.2 x hx); omega
 ·have h := h2 (e + 1) (by simpa using he)
  unfold fitB at h
  rw [Bool.and_eq_true] at h
  have h3 := h.2
  simp at h3
  unfold adjB; simpa using h3
theorem ahead_true {b : Book} {t : List (List Int)} (h : FitsP b t) : ∀ (e : Nat), e < t.length → 0 < aheadB b e (t.getD e [])
 | 0, _ => by unfold aheadB; omega
 | e + 1, he => by
  unfold aheadB
  have h1 := ahead_true h e (by omega)
  have hm : t.getD e [] ∈ (spB b e).filter (adjB b (t.getD (e + 1) [])) := List.mem_filter.2 ⟨h.row e (by omega), by rw [adj_comm]; exact h.adj e he⟩
  have := le_sum (f := aheadB b e) hm (fun y _ => ahead_nonneg b e y)
  omega
theorem back_true {b : Book} {t : List (List Int)} (h : FitsP b t) : ∀ (d e : Nat), e + d < t.length → 0 < backB b e d (t.getD e [])
 | 0, e, _ => by unfold backB; omega
 | d + 1, e, he => by
  unfold backB
  have h1 := back_true h d (e + 1) (by omega)
  have hm : t.getD (e + 1) [] ∈ (spB b (e + 1)).filter (adjB b (t.getD e [])) := List.mem_filter.2 ⟨h.row (e + 1) (by omega), h.adj e (by omega)⟩
  have := le_sum (f := backB b (e + 1) d) hm (fun y _ => back_nonneg b d (e + 1) y)
  omega
theorem page_true {b : Book} {t : List (List Int)} (h : FitsP b t) {e : Nat} (he : (e : Int) < b.editions) : t.getD e [] ∈ pageB b e := by
 have hl := h.len
 refine page_mem.2 ⟨h.row e (by omega), Int.mul_pos (ahead_true h e (by omega)) (back_true h _ e (by omega))⟩
theorem perm_at {b : Book} {l : List Int} (h : l ∈ permsB b) {n : Int} (h0 : 0 ≤ n) (h1 : n < b.goods.length) : ∃ x, l[n.toNat]? = some x ∧ 0 ≤ x ∧ x < b.goods.length := by
 obtain ⟨hl, _, hx⟩ := perms_mem.1 h
 have : n.toNat < l.length := by omega
 exact ⟨l[n.toNat], by simp [this], hx _ (List.getElem_mem _)⟩
theorem numsOf_sorted (n : Nat) : (numsOf n).Pairwise (· < ·) := by
 unfold numsOf
 rw [List.pairwise_map]
 exact List.pairwise_lt_range.imp fun h => by omega
theorem listedL_range {n : Nat} {l : List Int} (p : Int → Bool) (h : ∀ x, x ∈ l ↔ 0 ≤ x ∧ x < n ∧ p x = true) : listedL l = (numsOf n).filter p :=
 listedL_eq ((numsOf_sorted n).filter _) fun x => by rw [List.mem_filter, numsOf_mem, h]; constructor <;> (intro h; simp [h])
theorem left_sp (b : Book) (e : Nat) (n g : Int) : leftB b e n g = (((spB b e).filter fun l => l.getD n.toNat 0 == g).map (manyB b e)).sum := by
 unfold leftB pageB
 rw [List.filter_filter, sum_filter, sum_filter]
 refine sum_congr fun x _ => ?_
 by_cases h : manyB b e x = 0 <;> simp [h]
theorem left_nonneg (b : Book) (e : Nat) (n g : Int) : 0 ≤ leftB b e n g := sum_nonneg fun l _ => many_nonneg b e l
theorem left_pos {b : Book} {e : Nat} {n g : Int} : 0 < leftB b e n g ↔ ∃ l, l ∈ pageB b e ∧ l.getD n.toNat 0 = g := by
 unfold leftB
 constructor
 ·intro h
  obtain ⟨l, hl, _⟩ := sum_pos (fun y _ => many_nonneg b e y) h
  rw [List.mem_filter] at hl
  exact ⟨l, hl.1, by simpa using hl.2⟩
 ·rintro ⟨l, hl, hg⟩
  have hm : l ∈ (pageB b e).filter fun l => l.getD n.toNat 0 == g := List.mem_filter.2 ⟨hl, by simpa using hg⟩
  have := le_sum (f := manyB b e) hm (fun y _ => many_nonneg b e y)
  have := (page_mem.1 hl).2
  omega
theorem getD_perm {b : Book} {l : List Int} (h : l ∈ permsB b) {n : Int} (h0 : 0 ≤ n) (h1 : n < b.goods.length) : 0 ≤ l.getD n.toNat 0 ∧ l.getD n.toNat 0 < b.goods.length := by
 obtain ⟨x, hx, h2⟩ := perm_at h h0 h1
 rw [List.getD_eq_getElem?_getD, hx]; exact h2
theorem means_mem {b : Book} {e : Nat} {n g : Int} : g ∈ meansB b e n ↔ ∃ l, l ∈ pageB b e ∧ l.getD n.toNat 0 = g := by
 unfold meansB; rw [listedL_mem, List.mem_map]
theorem means_ref {b : Book} {e : Nat} {n : Int} (h0 : 0 ≤ n) (h1 : n < b.goods.length) : meansB b e n = (numsOf b.goods.length).filter fun g => decide (0 < leftB b e n g) := by
 refine listedL_range _ fun x => ?_
 rw [List.mem_map, decide_eq_true_eq, left_pos]
 constructor
 ·rintro ⟨l, hl, rfl⟩
  have := getD_perm (page_perm hl) h0 h1
  exact ⟨this.1, this.2, l, hl, rfl⟩
 ·rintro ⟨_, _, l, hl, h⟩; exact ⟨l, hl, h⟩
theorem idxL_mem {y : Int} : ∀ {l : List Int}, y ∈ l → idxL y l < l.length ∧ l.getD (idxL y l).toNat 0 = y
 | [], h => by simp at h
 | x :: l, h => by
  unfold idxL
  split
  ·rename_i e; subst e; simp
  ·rename_i hn
   have h' : y ∈ l := by
    rcases List.mem_cons.1 h with e | h
    ·exact (hn e.symm).elim
    ·exact h
   have hb := idxL_bd y l
   obtain ⟨h1, h2⟩ := idxL_mem h'
   refine ⟨by simp only [List.length_cons]; omega, ?_⟩
   rw [show (1 + idxL y l).toNat = (idxL y l).toNat + 1 by omega, List.getD_cons_succ]; exact h2
theorem idxL_uniq {y : Int} : ∀ {l : List Int} {k : Nat}, l.Nodup → l[k]? = some y → idxL y l = k
 | [], k, _, h => by simp at h
 | x :: l, 0, _, h => by simp at h; subst h; simp [idxL]
 | x :: l, k + 1, hd, h => by
  rw [List.nodup_cons] at hd
  have h' : l[k]? = some y := by simpa using h
  have hne : x ≠ y := fun e => hd.1 (by rw [e]; exact List.mem_of_getElem? h')
  unfold idxL
  rw [if_neg hne, idxL_uniq hd.2 h']; omega
theorem perm_idx {b : Book} {l : List Int} (h : l ∈ permsB b) {n g : Int} (n0 : 0 ≤ n) (n1 : n < b.goods.length) (g0 : 0 ≤ g) (g1 : g < b.goods.length) : idxL g l = n ↔ l.getD n.toNat 0 = g := by
 obtain ⟨h1, h2, h3⟩ := perms_mem.1 h
 constructor
 ·rintro rfl
  exact (idxL_mem (perm_has h1 h2 h3 g0 g1)).2
 ·intro e
  obtain ⟨x, hx, _⟩ := perm_at h n0 n1
  rw [List.getD_eq_getElem?_getD, hx] at e
  simp at e; subst e
  have := idxL_uniq h2 hx; omega
theorem numbers_mem {b : Book} {e : Nat} {n g : Int} : n ∈ numbersB b e g ↔ ∃ l, l ∈ pageB b e ∧ idxL g l = n := by
 unfold numbersB; rw [listedL_mem, List.mem_map]
theorem numbers_ref {b : Book} {e : Nat} {g : Int} (h0 : 0 ≤ g) (h1 : g < b.goods.length) : numbersB b e g = (numsOf b.goods.length).filter fun n => decide (0 < leftB b e n g) := by
 refine listedL_range _ fun x => ?_
 rw [List.mem_map, decide_eq_true_eq, left_pos]
 constructor
 ·rintro ⟨l, hl, rfl⟩
  have hp := page_perm hl
  obtain ⟨g1, g2, g3⟩ := perms_mem.1 hp
  have hb := idxL_bd g l
  have hm := idxL_mem (perm_has g1 g2 g3 h0 h1)
  exact ⟨hb.1, by rw [← g1]; exact hm.1, l, hl, hm.2⟩
 ·rintro ⟨x0, x1, l, hl, h⟩; exact ⟨l, hl, (perm_idx (page_perm hl) x0 x1 h0 h1).2 h⟩
/-- The theorem of meanings: each way. -/
theorem means_numbers {b : Book} {e : Nat} {n g : Int} (n0 : 0 ≤ n) (n1 : n < b.goods.length) (g0 : 0 ≤ g) (g1 : g < b.goods.length) : g ∈ meansB b e n ↔ n ∈ numbersB b e g := by
 rw [means_mem, numbers_mem]
 constructor
 ·rintro ⟨l, hl, h⟩; exact ⟨l, hl, (perm_idx (page_perm hl) n0 n1 g0 g1).2 h⟩
 ·rintro ⟨l, hl, h⟩; exact ⟨l, hl, (perm_idx (page_perm hl) n0 n1 g0 g1).1 h⟩
theorem means_true {b : Book} {t : List (List Int)} (h : FitsP b t) {e : Nat} (he : (e : Int) < b.editions) (n : Int) : (t.getD e []).getD n.toNat 0 ∈ meansB b e n := means_mem.2 ⟨_, page_true h he, rfl⟩
theorem means_one {b : Book} {e : Nat} {n : Int} (he : (e : Int) < b.editions) (h1 : truthsB b = 1) : (meansB b e n).length = 1 := by
 have hs := truths_at he
 rw [h1] at hs
 have hne : ∃ g, g ∈ meansB b e n := by
  obtain ⟨l, hl, _⟩ := sum_pos (f := manyB b e) (l := pageB b e) (fun y _ => many_nonneg b e y) (by omega)
  exact ⟨_, means_mem.2 ⟨l, hl, rfl⟩⟩
 have huniq : ∀ x y, x ∈ meansB b e n → y ∈ meansB b e n → x = y := fun x y hx hy => by
  obtain ⟨l, hl, rfl⟩ := means_mem.1 hx
  obtain ⟨m, hm, rfl⟩ := means_mem.1 hy
  by_cases hlm : l = m
  ·rw [hlm]
  ·have := two_le_sum (f := manyB b e) hl hm hlm (fun y _ => many_nonneg b e y)
   have := (page_mem.1 hl).2
   have := (page_mem.1 hm).2
   omega
 have hsort := listedL_sorted ((pageB b e).map fun l => l.getD n.toNat 0)
 change (meansB b e n).Pairwise _ at hsort
 obtain ⟨g, hg⟩ := hne
 match hm : meansB b e n with
 | [] => rw [hm] at hg; simp at hg
 | [x] => rfl
 | x :: y :: l =>
  rw [hm] at hsort
  have := huniq x y (by rw [hm]; simp) (by rw [hm]; simp)
  rw [List.pairwise_cons] at hsort
  have := hsort.1 y (by simp)
  omega
theorem sorted_len : ∀ {l : List Int} {lo hi : Int}, l.Pairwise (· < ·) → (∀ x, x ∈ l → lo ≤ x ∧ x < hi) → lo ≤ hi → (l.length : Int) ≤ hi - lo
 | [], lo, hi, _, _, h => by simp; omega
 | x :: l, lo, hi, h, hx, _ => by
  rw [List.pairwise_cons] at h
  have h0 := hx x (by simp)
  have := sorted_len (l := l) (lo := x + 1) (hi := hi) h.2 (fun y hy => ⟨by have := h.1 y hy; omega, (hx y (by simp [hy])).2⟩) (by omega)
  simp only [List.length_cons]; omega
theorem means_len {b : Book} {e : Nat} {n : Int} (h0 : 0 ≤ n) (h1 : n < b.goods.length) : (meansB b e n).length ≤ b.goods.length := by
 have := sorted_len (listedL_sorted ((pageB b e).map fun l => l.getD n.toNat 0)) (lo := 0) (hi := b.goods.length) (fun x hx => by
  obtain ⟨l, hl, rfl⟩ := means_mem.1 hx
  exact getD_perm (page_perm hl) h0 h1) (by omega)
 unfold meansB; omega
theorem numbers_len {b : Book} {e : Nat} {g : Int} (h0 : 0 ≤ g) (h1 : g < b.goods.length) : (numbersB b e g).length ≤ b.goods.length := by
 have := sorted_len (listedL_sorted ((pageB b e).map fun l => idxL g l)) (lo := 0) (hi := b.goods.length) (fun x hx => by
  obtain ⟨l, hl, rfl⟩ := numbers_mem.1 hx
  obtain ⟨g1, g2, g3⟩ := perms_mem.1 (page_perm hl)
  have hb := idxL_bd g l
  have hm := idxL_mem (perm_has g1 g2 g3 h0 h1)
  rw [g1] at hm; exact ⟨hb.1, hm.1⟩) (by omega)
 unfold numbersB; omega
def toldB (b : Book) (e n g : Int) : Book := ⟨b.goods, b.editions, b.moves, b.entries ++ [(e, n, g)]⟩
theorem told_book {b : Book} (hB : BookB b) (h7 : b.entries.length < 8) {e n g : Int} (he : isEditionB b e = true) (hn : isNumberB b n = true) (hg : isNumberB b g = true) : BookB (toldB b e n g) := by
 have h1 := inB_iff.1 he; have h2 := inB_iff.1 hn; have h3 := inB_iff.1 hg
 refine ⟨hB.g2, hB.g5, hB.e1, hB.e3, hB.m0, hB.m5, by unfold toldB; simp; omega, hB.lines, fun x hx => ?_⟩
 unfold toldB at hx
 rcases List.mem_append.1 hx with hx | hx
 ·exact hB.entries x hx
 ·rw [List.mem_singleton] at hx; subst hx; unfold toldB; simp only; omega
theorem told_suits (b : Book) (e n g e' : Int) (l : List Int) : suitsB (toldB b e n g) e' l = (suitsB b e' l && !(e == e' && l.getD n.toNat 0 != g)) := by
 unfold suitsB allowedB toldB breaks
 simp only [List.any_append, List.any_cons, List.any_nil, Bool.or_false, Bool.not_or, Bool.and_assoc]
theorem told_sp_ne (b : Book) (e : Nat) (n g : Int) {e' : Nat} (h : e' ≠ e) : spB (toldB b e n g) e' = spB b e' := by
 unfold spB
 refine List.filter_congr fun l _ => ?_
 rw [told_suits]
 have : ((e : Int) == (e' : Int)) = false := by rw [beq_eq_false_iff_ne]; omega
 simp [this]
theorem told_sp (b : Book) (e : Nat) (n g : Int) : spB (toldB b e n g) e = (spB b e).filter fun l => l.getD n.toNat 0 == g := by
 unfold spB
 rw [List.filter_filter]
 refine List.filter_congr fun l _ => ?_
 rw [told_suits]
 have : (!(((e : Int) == (e : Int)) && l.getD n.toNat 0 != g)) = (l.getD n.toNat 0 == g) := by rw [beq_self_eq_true, Bool.true_and]; exact Bool.not_not _
 rw [this, Bool.and_comm]
theorem told_ahead (b : Book) (e : Nat) (n g : Int) : ∀ (e' : Nat) (l : List Int), e' ≤ e → aheadB (toldB b e n g) e' l = aheadB b e' l
 | 0, _, _ => rfl
 | e' + 1, l, h => by
  unfold aheadB
  rw [told_sp_ne b e n g (by omega)]
  exact sum_congr fun x _ => told_ahead b e n g e' x (by omega)
theorem told_back (b : Book) (e : Nat) (n g : Int) : ∀ (d e' : Nat) (l : List Int), e ≤ e' → backB (toldB b e n g) e' d l = backB b e' d l
 | 0, _, _, _ => rfl
 | d + 1, e', l, h => by
  unfold backB
  rw [told_sp_ne b e n g (by omega)]
  exact sum_congr fun x _ => told_back b e n g d (e' + 1) x (by omega)
theorem told_many (b : Book) (e : Nat) (n g : Int) (l : List Int) : manyB (toldB b e n g) e l = manyB b e l := by
 unfold manyB afterB
 rw [told_ahead b e n g e l (Nat.le_refl _), told_back b e n g _ e l (Nat.le_refl _)]; rfl
theorem told_truths {b : Book} {e : Nat} (he : (e : Int) < b.editions) (n g : Int) : truthsB (toldB b e n g) = leftB b e n g := by
 rw [← truths_at (b := toldB b e n g) (e := e) he, pages_sum, told_sp, left_sp]
 exact sum_congr fun l _ => told_many b e n g l
theorem sum_single {n : Nat} {f : Int → Int} {x : Int} (h0 : 0 ≤ x) (h1 : x < n) : ((numsOf n).map fun g => if x = g then f g else 0).sum = f x := by
 have key : ∀ l : List Int, l.Nodup → x ∈ l → (l.map fun g => if x = g then f g else 0).sum = f x := fun l => by
  induction l with
  | nil => intro _ h; simp at h
  | cons a l ih =>
   intro hd hx
   rw [List.nodup_cons] at hd
   simp only [List.map_cons, List.sum_cons]
   by_cases e : x = a
   ·subst e
    have : (l.map fun g => if x = g then f g else 0).sum = 0 := by
     rw [sum_congr (g := fun _ => 0) (fun y hy => by rw [if_neg (fun e => hd.1 (by rw [e]; exact hy))])]; exact sum_zero l
    rw [this]; simp
   ·rw [if_neg e, ih hd.2 (by simpa [e] using hx)]; omega
 exact key _ (numsOf_nodup n) (numsOf_mem.2 ⟨h0, h1⟩)
/-- All answers together: all truths. -/
theorem left_all {b : Book} {e : Nat} (he : (e : Int) < b.editions) {n : Int} (h0 : 0 ≤ n) (h1 : n < b.goods.length) : ((numsOf b.goods.length).map (leftB b e n)).sum = truthsB b := by
 rw [← truths_at he]
 have : ∀ g, leftB b e n g = ((pageB b e).map fun l => if l.getD n.toNat 0 = g then manyB b e l else 0).sum := fun g => by
  unfold leftB; rw [sum_filter]
  exact sum_congr fun l _ => by by_cases h : l.getD n.toNat 0 = g <;> simp
 rw [sum_congr (fun g _ => this g), sum_swap]
 refine sum_congr fun l hl => ?_
 have := getD_perm (page_perm hl) h0 h1
 exact sum_single (f := fun _ => manyB b e l) this.1 this.2
theorem foldl_max_bd : ∀ (l : List Int) (a : Int), a ≤ l.foldl max a ∧ (∀ x, x ∈ l → x ≤ l.foldl max a) ∧ (l.foldl max a = a ∨ l.foldl max a ∈ l)
 | [], a => by simp
 | x :: l, a => by
  obtain ⟨h1, h2, h3⟩ := foldl_max_bd l (max a x)
  simp only [List.foldl_cons]
  refine ⟨by omega, fun y hy => ?_, ?_⟩
  ·rcases List.mem_cons.1 hy with rfl | hy
   ·omega
   ·exact h2 y hy
  ·rcases h3 with h | h
   ·rw [h]
    by_cases hx : x ≤ a
    ·left; omega
    ·right; rw [show max a x = x by omega]; simp
   ·right; simp [h]
theorem maxL_ge {l : List Int} {x : Int} (h : x ∈ l) : x ≤ maxL l := by
 cases l with
 | nil => simp at h
 | cons a l =>
  obtain ⟨h1, h2, _⟩ := foldl_max_bd l a
  rcases List.mem_cons.1 h with rfl | h
  ·exact h1
  ·exact h2 x h
theorem maxL_mem {l : List Int} (h : l ≠ []) : maxL l ∈ l := by
 cases l with
 | nil => exact (h rfl).elim
 | cons a l =>
  obtain ⟨_, _, h3⟩ := foldl_max_bd l a
  show l.foldl max a ∈ _
  rcases h3 with h | h
  ·rw [h]; simp
  ·simp [h]
theorem maxL_zero {l : List Int} (h : ∀ x, x ∈ l → 0 ≤ x) : l.foldl max 0 = maxL l := by
 cases l with
 | nil => rfl
 | cons a l => show l.foldl max (max 0 a) = _; rw [show max 0 a = a by have := h a (by simp); omega]; rfl
theorem worst_nonneg (b : Book) (e : Nat) (n : Int) : 0 ≤ worstB b e n := by
 unfold worstB
 by_cases h : (numsOf b.goods.length).map (leftB b e n) = []
 ·rw [h]; simp [maxL]
 ·obtain ⟨g, _, hg⟩ := List.mem_map.1 (maxL_mem h)
  rw [← hg]; exact left_nonneg b e n g
theorem worst_le {b : Book} {e : Nat} (he : (e : Int) < b.editions) (n : Int) (h : 0 ≤ truthsB b) : worstB b e n ≤ truthsB b := by
 unfold worstB
 by_cases h0 : (numsOf b.goods.length).map (leftB b e n) = []
 ·rw [h0]; exact h
 ·obtain ⟨g, _, hg⟩ := List.mem_map.1 (maxL_mem h0)
  rw [← hg]; exact left_le he n g
theorem worst_fold (b : Book) (e : Nat) (n : Int) : ((numsOf b.goods.length).foldl (fun m g => max m (leftB b e n g)) 0) = worstB b e n := by
 unfold worstB
 rw [← maxL_zero (fun x hx => by obtain ⟨g, _, rfl⟩ := List.mem_map.1 hx; exact left_nonneg b e n g), List.foldl_map]
def pickL {α : Type} (key : α → Int) (l : List α) (x : α) : α := l.foldl (fun out y => if decide (key y < key out) then y else out) x
theorem best_first {α : Type} (key : α → Int) : ∀ (l : List α) (x : α), ∃ k : Nat, (x :: l)[k]? = some (pickL key l x) ∧
  (∀ (j : Nat) (y : α), (x :: l)[j]? = some y → key (pickL key l x) ≤ key y ∧ (j < k → key (pickL key l x) < key y))
 | [], x => ⟨0, rfl, fun j y h => by
  match j, h with
  | 0, h => simp at h; subst h; exact ⟨Int.le_refl _, fun h => by omega⟩
  | j + 1, h => simp at h⟩
 | y :: l, x => by
  have hc : pickL key (y :: l) x = pickL key l (if decide (key y < key x) then y else x) := rfl
  rw [hc]
  by_cases h : key y < key x
  ·rw [if_pos (by simpa using h)]
   obtain ⟨k, h1, h2⟩ := best_first key l y
   refine ⟨k + 1, by simpa using h1, fun j z hj => ?_⟩
   have hy := (h2 0 y rfl).1
   match j, hj with
   | 0, hj => simp at hj; subst hj; omega
   | j + 1, hj => have := h2 j z (by simpa using hj); exact ⟨this.1, fun hk => this.2 (by omega)⟩
  ·rw [if_neg (by simpa using h)]
   obtain ⟨k, h1, h2⟩ := best_first key l x
   match k, h1, h2 with
   | 0, h1, h2 =>
    refine ⟨0, by simpa using h1, fun j z hj => ⟨?_, fun hk => by omega⟩⟩
    match j, hj with
    | 0, hj => exact (h2 0 z (by simpa using hj)).1
    | 1, hj => simp at hj; subst hj; have := (h2 0 x rfl).1; omega
    | j + 2, hj => exact (h2 (j + 1) z (by simpa using hj)).1
   | k + 1, h1, h2 =>
    refine ⟨k + 2, by simpa using h1, fun j z hj => ?_⟩
    have hx := h2 0 x rfl
    match j, hj with
    | 0, hj => simp at hj; subst hj; exact ⟨hx.1, fun _ => hx.2 (by omega)⟩
    | 1, hj => simp at hj; subst hj; have := hx.2 (by omega); omega
    | j + 2, hj => have := h2 (j + 1) z (by simpa using hj); exact ⟨this.1, fun hk => this.2 (by omega)⟩
theorem quest_of {b : Book} {k : Nat} {q : Int × Int × Int} (h : (questions b)[k]? = some q) : ∃ e n : Nat, k = e * b.goods.length + n ∧ (e : Int) < b.editions ∧ n < b.goods.length ∧ q = ((e : Int), (n : Int), worstB b e n) := by
 have hk : k < b.editions.toNat * b.goods.length := by rw [← quest_len]; exact (List.getElem?_eq_some_iff.1 h).1
 have h0 : 0 < b.goods.length := by
  rcases Nat.eq_zero_or_pos b.goods.length with h | h
  ·rw [h] at hk; simp at hk
  ·exact h
 have hd : k / b.goods.length < b.editions.toNat := Nat.div_lt_of_lt_mul (by rw [Nat.mul_comm]; exact hk)
 have hm := Nat.mod_lt k h0
 have he : k = k / b.goods.length * b.goods.length + k % b.goods.length := by rw [Nat.mul_comm]; exact (Nat.div_add_mod k _).symm
 generalize k / b.goods.length = q at *
 generalize k % b.goods.length = r at *
 clear hk
 refine ⟨q, r, he, by omega, hm, ?_⟩
 rw [he, quest_at (by omega) hm] at h
 simpa using h.symm
theorem ask_spec {b : Book} (hB : BookB b) : ∃ (e n : Nat), askB b = ((e : Int), (n : Int), worstB b e n) ∧ (e : Int) < b.editions ∧ n < b.goods.length ∧
  ∀ (e' n' : Nat), (e' : Int) < b.editions → n' < b.goods.length → worstB b e n ≤ worstB b e' n' ∧ ((e' < e ∨ e' = e ∧ n' < n) → worstB b e n < worstB b e' n') := by
 have h1 := hB.e1; have h2 := hB.g2
 have h00 := quest_at (b := b) (e := 0) (n := 0) (by omega) (by omega)
 match hq : questions b with
 | [] => rw [hq] at h00; simp at h00
 | x :: l =>
  obtain ⟨k, hk1, hk2⟩ := best_first (fun q : Int × Int × Int => q.2.2) l x
  have ha : askB b = pickL (fun q : Int × Int × Int => q.2.2) l x := by unfold askB; rw [hq]; rfl
  rw [← ha] at hk1 hk2
  rw [← hq] at hk1 hk2
  obtain ⟨e, n, hke, he, hn, hqe⟩ := quest_of hk1
  refine ⟨e, n, hqe, he, hn, fun e' n' he' hn' => ?_⟩
  have := hk2 _ _ (quest_at he' hn')
  rw [hqe] at this
  refine ⟨this.1, fun hb => this.2 ?_⟩
  rw [hke]
  rcases hb with h | ⟨rfl, h⟩
  ·have : e' * b.goods.length + b.goods.length ≤ e * b.goods.length := by rw [← Nat.succ_mul]; exact Nat.mul_le_mul_right _ h
   omega
  ·omega
/-- What the reference does: from more than all truths on. -/
theorem ask_fold {b : Book} (hB : BookB b) : (questions b).foldl (fun out y => if decide (y.2.2 < out.2.2) then y else out) (0, 0, truthsB b + 1) = askB b := by
 have h1 := hB.e1; have h2 := hB.g2
 have h00 := quest_at (b := b) (e := 0) (n := 0) (by omega) (by omega)
 unfold askB
 match hq : questions b with
 | [] => rw [hq] at h00; simp at h00
 | x :: l =>
  rw [hq] at h00
  have hx : x = (((0 : Nat) : Int), ((0 : Nat) : Int), worstB b 0 ((0 : Nat) : Int)) := by simpa using h00
  have hw := worst_le (b := b) (e := 0) (by omega) ((0 : Nat) : Int) (sum_nonneg fun l _ => many_nonneg b 0 l)
  have : x.2.2 < truthsB b + 1 := by rw [hx]; simp only; omega
  simp only [List.foldl_cons, bestOf, Option.getD_some]
  rw [if_pos (by simpa using this)]
def moreB (b : Book) (x : Int × Int × Int) (m : Int) : Book := ⟨b.goods, b.editions, m, b.entries ++ [x]⟩
theorem more_sp {b : Book} {x : Int × Int × Int} {m : Int} {e : Nat} {l : List Int} (h : l ∈ spB (moreB b x m) e) : l ∈ spB b e := by
 obtain ⟨h1, h2⟩ := sp_mem.1 h
 refine sp_mem.2 ⟨h1, ?_⟩
 unfold suitsB allowedB moreB at h2
 unfold suitsB allowedB
 simp only [List.any_append, Bool.not_or, Bool.and_eq_true] at h2 ⊢
 exact ⟨h2.1, h2.2.1⟩
theorem sub_sum {α : Type} {f g : α → Int} {p q : α → Bool} {l : List α} (hpq : ∀ x, x ∈ l → p x = true → q x = true) (hfg : ∀ x, f x ≤ g x) (h0 : ∀ x, 0 ≤ g x) : ((l.filter p).map f).sum ≤ ((l.filter q).map g).sum := by
 rw [sum_filter, sum_filter]
 refine sum_le fun x hx => ?_
 by_cases h : p x = true
 ·rw [if_pos h, if_pos (hpq x hx h)]; exact hfg x
 ·rw [if_neg h]; split
  ·exact h0 x
  ·omega
theorem more_filter {b : Book} {x : Int × Int × Int} {m : Int} (e : Nat) (l : List Int) : (spB (moreB b x m) e).filter (adjB (moreB b x m) l) = (permsB b).filter fun y => suitsB (moreB b x m) e y && adjB (moreB b x m) l y := by
 unfold spB; rw [List.filter_filter]; refine List.filter_congr fun y _ => by rw [Bool.and_comm]
theorem same_filter {b : Book} (e : Nat) (l : List Int) : (spB b e).filter (adjB b l) = (permsB b).filter fun y => suitsB b e y && adjB b l y := by
 unfold spB; rw [List.filter_filter]; refine List.filter_congr fun y _ => by rw [Bool.and_comm]
theorem more_both {b : Book} {x : Int × Int × Int} {m : Int} (hm : m ≤ b.moves) {e : Nat} {l y : List Int} (hy : y ∈ permsB b) (h : (suitsB (moreB b x m) e y && adjB (moreB b x m) l y) = true) : (suitsB b e y && adjB b l y) = true := by
 rw [Bool.and_eq_true] at h ⊢
 refine ⟨(sp_mem.1 (more_sp (sp_mem.2 ⟨hy, h.1⟩))).2, ?_⟩
 have := h.2; unfold adjB moreB at this; unfold adjB; simp only [decide_eq_true_eq] at *; omega
theorem more_ahead {b : Book} {x : Int × Int × Int} {m : Int} (hm : m ≤ b.moves) : ∀ (e : Nat) (l : List Int), aheadB (moreB b x m) e l ≤ aheadB b e l
 | 0, _ => Int.le_refl _
 | e + 1, l => by
  unfold aheadB
  rw [more_filter, same_filter]
  exact sub_sum (fun y hy h => more_both hm hy h) (fun y => more_ahead hm e y) (fun y => ahead_nonneg b e y)
theorem more_back {b : Book} {x : Int × Int × Int} {m : Int} (hm : m ≤ b.moves) : ∀ (d e : Nat) (l : List Int), backB (moreB b x m) e d l ≤ backB b e d l
 | 0, _, _ => Int.le_refl _
 | d + 1, e, l => by
  unfold backB
  rw [more_filter, same_filter]
  exact sub_sum (fun y hy h => more_both hm hy h) (fun y => more_back hm d (e + 1) y) (fun y => back_nonneg b d (e + 1) y)
theorem more_many {b : Book} {x : Int × Int × Int} {m : Int} (hm : m ≤ b.moves) (e : Nat) (l : List Int) : manyB (moreB b x m) e l ≤ manyB b e l := by
 unfold manyB afterB
 exact Int.mul_le_mul (more_ahead hm e l) (more_back hm _ e l) (back_nonneg _ _ _ _) (ahead_nonneg _ _ _)
theorem more_page {b : Book} {x : Int × Int × Int} {m : Int} (hm : m ≤ b.moves) {e : Nat} {l : List Int} (h : l ∈ pageB (moreB b x m) e) : l ∈ pageB b e := by
 obtain ⟨h1, h2⟩ := page_mem.1 h
 have := more_many (x := x) hm e l
 exact page_mem.2 ⟨more_sp h1, by omega⟩
theorem more_means {b : Book} {x : Int × Int × Int} {m : Int} (hm : m ≤ b.moves) {e : Nat} {n g : Int} (h : g ∈ meansB (moreB b x m) e n) : g ∈ meansB b e n := by
 obtain ⟨l, hl, hg⟩ := means_mem.1 h
 exact means_mem.2 ⟨l, more_page hm hl, hg⟩
theorem more_truths {b : Book} {x : Int × Int × Int} {m : Int} (hm : m ≤ b.moves) : truthsB (moreB b x m) ≤ truthsB b := by
 unfold truthsB
 rw [pages_sum, pages_sum]
 exact sub_sum (fun y hy h => (sp_mem.1 (more_sp (sp_mem.2 ⟨hy, h⟩))).2) (fun y => more_many hm 0 y) (fun y => many_nonneg b 0 y)
theorem sub_len : ∀ {a b : List Int}, a.Nodup → (∀ x, x ∈ a → x ∈ b) → a.length ≤ b.length
 | [], _, _, _ => by simp
 | x :: a, b, hd, h => by
  rw [List.nodup_cons] at hd
  have := sub_len (a := a) (b := b.erase x) hd.2 (fun y hy => (List.mem_erase_of_ne (fun e => hd.1 (by rw [← e]; exact hy))).2 (h y (by simp [hy])))
  have hx := h x (by simp)
  rw [List.length_erase_of_mem hx] at this
  have := List.length_pos_of_mem hx
  simp only [List.length_cons]; omega
theorem means_nodup (b : Book) (e : Nat) (n : Int) : (meansB b e n).Nodup := List.nodup_iff_pairwise_ne.2 ((listedL_sorted _).imp fun h e => by omega)
theorem more_len {b : Book} {x : Int × Int × Int} {m : Int} (hm : m ≤ b.moves) (e : Nat) (n : Int) : (meansB (moreB b x m) e n).length ≤ (meansB b e n).length :=
 sub_len (means_nodup _ _ _) fun _ h => more_means hm h
end Go.Proofs.YtokananogogjaaaGreatDoor
