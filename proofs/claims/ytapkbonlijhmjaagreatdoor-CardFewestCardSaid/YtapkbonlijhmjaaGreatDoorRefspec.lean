/- What the reference computes of tours and plans, in plain Lean; that it is what the program computes. -/
import Derived.Test.YtapkbonlijhmjaaGreatDoorPush
namespace Go.Proofs.YtapkbonlijhmjaaGreatDoor

/-! ### Orders -/
/-- The reference's orders of a list of f numbers. -/
def refO : Nat → List Int → List (List Int)
  | 0, _ => [[]]
  | f + 1, l => (List.range l.length).flatMap fun i => (refO f (l.eraseIdx i)).map (l.getD i 0 :: ·)
theorem flatMap_range {α : Type} (g : Int → List α) : ∀ (l : List Int), (List.range l.length).flatMap (fun i => g (l.getD i 0)) = l.flatMap g := by
  intro l
  conv => rhs; rw [show l = (List.range l.length).map (fun i => l.getD i 0) from by
    apply List.ext_getElem
    · simp
    · intro i h1 h2; simp [List.getD, List.getElem?_eq_getElem h1]]
  rw [List.flatMap_map]
theorem flatMap_congr' {α β : Type} {l : List α} {f g : α → List β} (h : ∀ x, x ∈ l → f x = g x) : l.flatMap f = l.flatMap g := by
  induction l with
  | nil => rfl
  | cons a l ih => rw [List.flatMap_cons, List.flatMap_cons, h a (by simp), ih (fun x hx => h x (by simp [hx]))]
theorem flatMap_filter {α : Type} (p : Int → Bool) (g : Int → List α) : ∀ (l : List Int), (l.filter p).flatMap g = l.flatMap fun n => if p n then g n else []
  | [] => rfl
  | a :: l => by
    rw [List.flatMap_cons, ← flatMap_filter p g l]
    by_cases h : p a = true
    · rw [List.filter_cons_of_pos h, List.flatMap_cons, if_pos h]
    · rw [List.filter_cons_of_neg h, if_neg h]; rfl
theorem eraseIdx_filter : ∀ {l : List Int} {i : Nat} (_ : l.Nodup) (h : i < l.length), l.eraseIdx i = l.filter (fun n => decide (n ≠ l[i]))
  | a :: l, 0, hd, h => by
    have hn := (List.nodup_cons.1 hd).1
    simp only [List.eraseIdx_zero, List.tail_cons, List.getElem_cons_zero]
    rw [List.filter_cons_of_neg (by simp), List.filter_eq_self.2]
    intro b hb; simp; intro e; exact hn (e ▸ hb)
  | a :: l, i + 1, hd, h => by
    have hn := (List.nodup_cons.1 hd).1
    have hi : i < l.length := by simpa using h
    simp only [List.eraseIdx_cons_succ, List.getElem_cons_succ]
    have hne : a ≠ l[i] := fun e => hn (e ▸ List.getElem_mem hi)
    rw [List.filter_cons_of_pos (by simpa using hne), eraseIdx_filter (List.nodup_cons.1 hd).2 hi]
theorem ordersFrom_ref {hs : List Int} (hd : hs.Nodup) : ∀ (f : Nat) (now : List Int), (hs.filter fun n => decide (n ∉ now)).length = f → ordersFrom hs f now = (refO f (hs.filter fun n => decide (n ∉ now))).map (now ++ ·)
  | 0, now, _ => by simp [ordersFrom, refO]
  | f + 1, now, hf => by
    generalize hl : (hs.filter fun n => decide (n ∉ now)) = l at hf ⊢
    have hld : l.Nodup := by rw [← hl]; exact hd.filter _
    have h1 : ordersFrom hs (f + 1) now = l.flatMap fun n => ordersFrom hs f (now ++ [n]) := by
      rw [← hl, flatMap_filter]
      simp only [ordersFrom, decide_eq_true_eq, ite_not]
    rw [h1, ← flatMap_range]
    simp only [refO, List.map_flatMap]
    refine flatMap_congr' fun i hi => ?_
    have hil : i < l.length := List.mem_range.1 hi
    have hg : l.getD i 0 = l[i] := by simp [List.getD, List.getElem?_eq_getElem hil]
    have he : (hs.filter fun n => decide (n ∉ now ++ [l[i]])) = l.eraseIdx i := by
      rw [eraseIdx_filter hld hil]
      generalize l[i] = y
      rw [← hl, List.filter_filter]
      congr 1; funext n; simp only [List.mem_append, List.mem_singleton, not_or, Bool.decide_and]
      exact Bool.and_comm _ _
    rw [hg, ordersFrom_ref hd f (now ++ [l[i]]) (by rw [he, List.length_eraseIdx_of_lt hil, hf]; rfl), he, List.map_map]
    refine List.map_congr_left fun x _ => ?_
    simp
theorem ordersOf_ref {hs : List Int} (hd : hs.Nodup) : ordersOf hs = refO hs.length hs := by
  have hf : (hs.filter fun n => decide (n ∉ ([] : List Int))) = hs := List.filter_eq_self.2 (by simp)
  have := ordersFrom_ref hd hs.length [] (by rw [hf])
  rw [hf] at this
  simpa [ordersOf] using this

/-! ### The first of the best -/
/-- The reference's loop: best is replaced by whatever is better. -/
theorem best_loop {α : Type} (lt : α → α → Bool) : ∀ (xs : List α) (b : α), xs.foldl (stepBest lt) (some b) = some (xs.foldl (fun b x => if lt x b then x else b) b)
  | [], _ => rfl
  | x :: xs, b => by
    simp only [List.foldl_cons, stepBest]
    split
    · exact best_loop lt xs x
    · exact best_loop lt xs b
theorem firstBest_cons {α : Type} (lt : α → α → Bool) (x : α) (xs : List α) (hx : lt x x = false) : firstBest lt (x :: xs) = some ((x :: xs).foldl (fun b x => if lt x b then x else b) x) := by
  unfold firstBest
  rw [List.foldl_cons, show stepBest lt none x = some x from rfl, best_loop, List.foldl_cons, hx]; rfl
/-- The reference's best tour. -/
def refTour (c : Roads) (l : List Int) : List Int := (refO l.length l).foldl (fun b x => if shorterB c x b then x else b) ((refO l.length l).headD [])
theorem refTour_eq {c : Roads} {hs : List Int} (hd : hs.Nodup) : bestTour c hs = some (refTour c hs) := by
  unfold bestTour refTour
  have hne := List.ne_nil_of_mem (ordersOf_self hd)
  rw [← ordersOf_ref hd]
  cases h : ordersOf hs with
  | nil => exact absurd h hne
  | cons x xs => exact firstBest_cons _ _ _ (by simp [shorterB])
theorem tourOf_ref {c : Roads} {hs : List Int} (hd : hs.Nodup) : tourOf c hs = refTour c hs := by
  unfold tourOf; rw [refTour_eq hd]; rfl
end Go.Proofs.YtapkbonlijhmjaaGreatDoor
