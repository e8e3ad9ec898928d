/- The best tour of a rising list is the first of the shortest in lexicographic order: plain Lean. -/
import Derived.Test.YtapkbonlijhmjaaGreatDoorRtour
import Derived.Test.YtapkbonlijhmjaaGreatDoorTourh
import Derived.Test.YtapkbonlijhmjaaGreatDoorBefore
namespace Go.Proofs.YtapkbonlijhmjaaGreatDoor
open Go.RowKit

theorem stops_parts {c : Roads} {l : List Int} : badStops c l = !(someB c l && risingB l) := by
  cases h : someB c l && risingB l with
  | true =>
    rw [Bool.and_eq_true] at h
    obtain ⟨h1, h2⟩ := h
    refine badStops_none (fun i hi => ?_)
    unfold badAt
    have hm : l.getD i 0 ∈ l := by rw [List.getD_eq_getElem?_getD, List.getElem?_eq_getElem hi]; exact List.getElem_mem hi
    rw [show isStopB c (l.getD i 0) = true from List.all_eq_true.1 h1 _ hm]
    cases i with
    | zero => simp
    | succ i =>
      unfold risingB at h2
      rw [Bool.not_eq_true', List.any_eq_false] at h2
      have h3 := h2 i (List.mem_range.2 (by omega))
      unfold riseAt at h3
      simp only [decide_eq_true_eq] at h3
      simp only [Nat.add_sub_cancel, Bool.not_true, Bool.false_or, Bool.and_eq_false_iff, decide_eq_false_iff_not]
      exact .inr h3
  | false =>
    rw [Bool.and_eq_false_iff] at h
    rcases h with h | h
    · unfold someB at h
      rw [List.all_eq_false] at h
      obtain ⟨x, hx, hp⟩ := h
      obtain ⟨i, hi, rfl⟩ := List.mem_iff_getElem.1 hx
      refine badStops_of hi ?_
      unfold badAt
      rw [List.getD_eq_getElem?_getD, List.getElem?_eq_getElem hi]
      simp only [Option.getD_some]
      simp [hp]
    · unfold risingB at h
      rw [Bool.not_eq_false', List.any_eq_true] at h
      obtain ⟨i, hi, hp⟩ := h
      have hil := List.mem_range.1 hi
      refine badStops_of (i := i + 1) (by omega) ?_
      unfold badAt riseAt at *
      simp only [decide_eq_true_eq] at hp
      rw [Bool.or_eq_true, Bool.and_eq_true, decide_eq_true_eq, decide_eq_true_eq, Nat.add_sub_cancel]
      exact .inr ⟨by omega, hp⟩
theorem refTour_mem {c : Roads} {l : List Int} : refTour c l ∈ refO l.length l := by
  have hne : refO l.length l ≠ [] := by
    intro e
    have h1 := refO_len l.length l rfl
    rw [e] at h1
    have h2 : 0 < facN l.length := by
      generalize l.length = n
      induction n with
      | zero => decide
      | succ n ih => unfold facN; exact Nat.mul_pos (by omega) ih
    simp at h1
    omega
  have := bestUp_mem (c := c) hne (refO l.length l).length
  rwa [bestUp_all c l (Nat.le_refl _)] at this
/-- What a first best one is, by a measure. -/
def FirstOf (f : List Int → Int) (xs : List (List Int)) (t : List Int) : Prop := ∃ p s, xs = p ++ t :: s ∧ (∀ y, y ∈ p → f t < f y) ∧ ∀ y, y ∈ s → f t ≤ f y
theorem first_fold (f : List Int → Int) : ∀ (r d : List (List Int)) (y : List Int), FirstOf f d y → ∃ t, r.foldl (stepBest fun a b => decide (f a < f b)) (some y) = some t ∧ FirstOf f (d ++ r) t
  | [], d, y, h => ⟨y, rfl, by rw [List.append_nil]; exact h⟩
  | x :: r, d, y, h => by
    obtain ⟨p, s, hd, h1, h2⟩ := h
    rw [List.foldl_cons]
    by_cases hxy : f x < f y
    · have hs : stepBest (fun a b => decide (f a < f b)) (some y) x = some x := by simp [stepBest, hxy]
      rw [hs, show d ++ x :: r = (d ++ [x]) ++ r by simp]
      refine first_fold f r (d ++ [x]) x ⟨d, [], rfl, fun z hz => ?_, fun z hz => by simp at hz⟩
      rw [hd] at hz
      rcases List.mem_append.1 hz with hz | hz
      · have := h1 z hz; omega
      · rcases List.mem_cons.1 hz with rfl | hz
        · exact hxy
        · have := h2 z hz; omega
    · have hs : stepBest (fun a b => decide (f a < f b)) (some y) x = some y := by simp [stepBest, hxy]
      rw [hs, show d ++ x :: r = (d ++ [x]) ++ r by simp]
      refine first_fold f r (d ++ [x]) y ⟨p, s ++ [x], by rw [hd]; simp, h1, fun z hz => ?_⟩
      rcases List.mem_append.1 hz with hz | hz
      · exact h2 z hz
      · rw [List.mem_singleton.1 hz]; omega
theorem first_best {f : List Int → Int} {xs : List (List Int)} {t : List Int} (h : firstBest (fun a b => decide (f a < f b)) xs = some t) : FirstOf f xs t := by
  cases xs with
  | nil => simp [firstBest] at h
  | cons x xs =>
    obtain ⟨t', h1, h2⟩ := first_fold f xs [x] x ⟨[], [], rfl, fun y hy => by simp at hy, fun y hy => by simp at hy⟩
    unfold firstBest at h
    rw [List.foldl_cons, show stepBest (fun a b => decide (f a < f b)) none x = some x from rfl, h1] at h
    cases h
    exact h2
theorem befB_asymm : ∀ {a b : List Int}, befB a b = true → befB b a = false
  | [], [], h => by simp [befB] at h
  | [], y :: b, _ => by simp [befB]
  | x :: a, [], h => by simp [befB] at h
  | x :: a, y :: b, h => by
    unfold befB at h ⊢
    by_cases e : x = y
    · rw [if_pos e] at h; rw [if_pos e.symm]; exact befB_asymm h
    · rw [if_neg e] at h; rw [if_neg (fun e' => e e'.symm)]
      simp only [decide_eq_true_eq] at h
      simp; omega
theorem ordersFrom_front {hs : List Int} : ∀ (f : Nat) (now x : List Int), x ∈ ordersFrom hs f now → ∃ r, x = now ++ r
  | 0, now, x, h => ⟨[], by rw [List.append_nil]; simpa [ordersFrom] using h⟩
  | f + 1, now, x, h => by
    simp only [ordersFrom, List.mem_flatMap] at h
    obtain ⟨n, _, h⟩ := h
    split at h
    · simp at h
    · obtain ⟨r, rfl⟩ := ordersFrom_front f _ x h
      exact ⟨n :: r, by simp⟩
theorem ordersFrom_lex {hs : List Int} (hp : hs.Pairwise (· < ·)) : ∀ (f : Nat) (now : List Int), (ordersFrom hs f now).Pairwise fun a b => befB a b = true
  | 0, now => by simp [ordersFrom]
  | f + 1, now => by
    unfold ordersFrom
    rw [List.pairwise_flatMap]
    refine ⟨fun n _ => ?_, hp.imp fun {n m} hnm x hx y hy => ?_⟩
    · split
      · exact List.Pairwise.nil
      · exact ordersFrom_lex hp f _
    · split at hx
      · simp at hx
      · split at hy
        · simp at hy
        · obtain ⟨r, rfl⟩ := ordersFrom_front f _ x hx
          obtain ⟨q, rfl⟩ := ordersFrom_front f _ y hy
          rw [List.append_assoc, List.append_assoc, befB_app]
          simp only [List.singleton_append]
          unfold befB
          rw [if_neg (by omega)]
          simpa using hnm
theorem stops_pairwise {c : Roads} {hs : List Int} (h : badStops c hs = false) : hs.Pairwise (· < ·) := by
  rw [List.pairwise_iff_getElem]
  intro i j hi hj hij
  have := stops_lt h (j - i - 1) i (by omega)
  rw [show i + (j - i - 1) + 1 = j by omega, List.getD_eq_getElem?_getD, List.getD_eq_getElem?_getD, List.getElem?_eq_getElem hi, List.getElem?_eq_getElem hj] at this
  simpa using this
theorem mem_ordersFrom {hs : List Int} (hd : hs.Nodup) : ∀ (r now : List Int), (now ++ r).Perm hs → now ++ r ∈ ordersFrom hs r.length now
  | [], now, _ => by simp [ordersFrom]
  | n :: r, now, h => by
    have hnd : (now ++ n :: r).Nodup := h.nodup_iff.2 hd
    have hn : n ∈ hs := h.mem_iff.1 (by simp)
    have hnn : n ∉ now := fun hm => by
      rw [List.nodup_append] at hnd
      exact hnd.2.2 n hm n (by simp) rfl
    rw [List.length_cons]
    simp only [ordersFrom, List.mem_flatMap]
    refine ⟨n, hn, ?_⟩
    rw [if_neg hnn, show now ++ n :: r = (now ++ [n]) ++ r by simp]
    exact mem_ordersFrom hd r (now ++ [n]) (by rw [List.append_assoc]; exact h)
theorem tour_first {c : Roads} {hs other : List Int} (hb : badStops c hs = false) (hp : other.Perm hs) :
    lengthOf c (refTour c hs) < lengthOf c other ∨ (lengthOf c other = lengthOf c (refTour c hs) ∧ befB other (refTour c hs) = false) := by
  have hd := nodup_of_stops hb
  have h1 := first_best (f := lengthOf c) (show firstBest (fun a b => decide (lengthOf c a < lengthOf c b)) (ordersOf hs) = some (refTour c hs) from refTour_eq hd)
  obtain ⟨p, s, hx, h2, h3⟩ := h1
  have hm : other ∈ ordersOf hs := by
    have := mem_ordersFrom hd other [] (by simpa using hp)
    rw [hp.length_eq] at this
    exact (show other ∈ ordersFrom hs hs.length [] from by simpa using this)
  have hlex := ordersFrom_lex (stops_pairwise hb) hs.length []
  change (ordersOf hs).Pairwise _ at hlex
  rw [hx] at hm hlex
  rcases List.mem_append.1 hm with hm | hm
  · exact .inl (h2 other hm)
  · rcases List.mem_cons.1 hm with rfl | hm
    · exact .inr ⟨rfl, befB_self _⟩
    · have h4 := h3 other hm
      have h5 := (List.pairwise_cons.1 (List.pairwise_append.1 hlex).2.1).1 other hm
      by_cases he : lengthOf c other = lengthOf c (refTour c hs)
      · exact .inr ⟨he, befB_asymm h5⟩
      · exact .inl (by omega)
theorem refTour_perm {c : Roads} {hs : List Int} (hd : hs.Nodup) : (refTour c hs).Perm hs := by
  have h := refTour_mem (c := c) (l := hs)
  rw [← ordersOf_ref hd] at h
  exact ordersOf_perm h
theorem some_perm {c : Roads} {a b : List Int} (h : a.Perm b) : someB c a = someB c b := by
  unfold someB
  rw [Bool.eq_iff_iff, List.all_eq_true, List.all_eq_true]
  exact ⟨fun k x hx => k x (h.mem_iff.2 hx), fun k x hx => k x (h.mem_iff.1 hx)⟩
end Go.Proofs.YtapkbonlijhmjaaGreatDoor
