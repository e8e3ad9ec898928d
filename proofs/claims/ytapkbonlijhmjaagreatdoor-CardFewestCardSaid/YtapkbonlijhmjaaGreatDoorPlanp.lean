/- The reference's plans in plain Lean: all ways to part houses, the light ones, the best. -/
import Derived.Test.YtapkbonlijhmjaaGreatDoorMorep
import Derived.Test.YtapkbonlijhmjaaGreatDoorBefore
import Derived.Test.YtapkbonlijhmjaaGreatDoorRefspec
namespace Go.Proofs.YtapkbonlijhmjaaGreatDoor
open Go.RowKit

/-- All ways to go on. -/
def partsAll : Nat → List (List Int) → Int → List (List (List Int))
  | 0, now, _ => [now]
  | f + 1, now, h => (List.range (now.length + 1)).flatMap fun i => partsAll f (nextAt now i h) (h + 1)
def lightB (c : Roads) (x : List (List Int)) : Bool := x.all fun l => decide (loadOf c l ≤ c.bears)
theorem load_one {c : Roads} (hB : RoadsB c) (h : Int) : 0 ≤ c.loads.getD (h - 1).toNat 0 := by
  rw [List.getD_eq_getElem?_getD]
  cases hq : c.loads[(h - 1).toNat]? with
  | none => simp
  | some y => have := (hB.l y (List.mem_of_getElem? hq)).1; simpa using this
theorem load_snoc {c : Roads} (l : List Int) (h : Int) : loadOf c (l ++ [h]) = loadOf c l + c.loads.getD (h - 1).toNat 0 := by simp [loadOf]
theorem light_mem {c : Roads} {x : List (List Int)} : lightB c x = true ↔ ∀ l, l ∈ x → loadOf c l ≤ c.bears := by
  unfold lightB; rw [List.all_eq_true]; simp
theorem light_next {c : Roads} (hB : RoadsB c) {now : List (List Int)} {i : Nat} {h : Int} (hi : i ≤ now.length) :
    lightB c (nextAt now i h) = (lightB c now && decide (loadOf c ((nextAt now i h).getD i []) ≤ c.bears)) := by
  have h0 := load_one hB h
  rw [nextAt_getD hi, Bool.eq_iff_iff, Bool.and_eq_true, light_mem, light_mem, decide_eq_true_eq, load_snoc]
  by_cases hlt : i < now.length
  · rw [nextAt_lt hlt]
    constructor
    · intro k
      have hm : now.getD i [] ++ [h] ∈ now.set i (now.getD i [] ++ [h]) := List.mem_set hlt _
      have k1 := k _ hm
      rw [load_snoc] at k1
      refine ⟨fun l hl => ?_, k1⟩
      obtain ⟨j, hj, rfl⟩ := List.mem_iff_getElem.1 hl
      by_cases e : j = i
      · subst e
        have : now.getD j [] = now[j] := by rw [List.getD_eq_getElem?_getD, List.getElem?_eq_getElem hj]; rfl
        rw [this] at k1
        omega
      · refine k _ (List.mem_iff_getElem.2 ⟨j, by rw [List.length_set]; exact hj, ?_⟩)
        rw [List.getElem_set_ne (fun e' => e e'.symm)]
    · rintro ⟨k, k1⟩ l hl
      rcases List.mem_or_eq_of_mem_set hl with hl | rfl
      · exact k l hl
      · rw [load_snoc]; exact k1
  · have e : i = now.length := by omega
    subst e
    rw [nextAt_end]
    have hg : now.getD now.length [] = [] := by simp
    rw [hg]
    constructor
    · intro k
      refine ⟨fun l hl => k l (List.mem_append_left _ hl), ?_⟩
      have := k [h] (by simp)
      rwa [show [h] = [] ++ [h] from rfl, load_snoc] at this
    · rintro ⟨k, k1⟩ l hl
      rcases List.mem_append.1 hl with hl | hl
      · exact k l hl
      · rw [List.mem_singleton.1 hl, show [h] = [] ++ [h] from rfl, load_snoc]; exact k1
theorem heavy_stays {c : Roads} (hB : RoadsB c) : ∀ (f : Nat) (now : List (List Int)) (h : Int), lightB c now = false → (partsAll f now h).filter (lightB c) = []
  | 0, now, h, k => by simp [partsAll, k]
  | f + 1, now, h, k => by
    simp only [partsAll, List.filter_flatMap]
    rw [List.flatMap_eq_nil_iff]
    intro i hi
    refine heavy_stays hB f _ _ ?_
    rw [light_next hB (by have := List.mem_range.1 hi; omega), k, Bool.false_and]
theorem parts_light {c : Roads} (hB : RoadsB c) : ∀ (f : Nat) (now : List (List Int)) (h : Int), lightB c now = true → partsFrom c f now h = (partsAll f now h).filter (lightB c)
  | 0, now, h, k => by simp [partsFrom, partsAll, k]
  | f + 1, now, h, k => by
    simp only [partsFrom, partsAll, List.filter_flatMap]
    refine flatMap_congr' (fun i hi => ?_)
    have hn := light_next hB (c := c) (now := now) (i := i) (h := h) (by have := List.mem_range.1 hi; omega)
    rw [k, Bool.true_and] at hn
    by_cases hc : c.bears < loadOf c ((nextAt now i h).getD i [])
    · rw [if_pos hc, heavy_stays hB]
      rw [hn, decide_eq_false_iff_not]; omega
    · rw [if_neg hc]
      exact parts_light hB f _ _ (by rw [hn, decide_eq_true_eq]; omega)
/-- House by house: what the reference's loops do. -/
def nextAll (h : Int) (now : List (List Int)) : List (List (List Int)) := (List.range (now.length + 1)).map fun i => nextAt now i h
def partsUp : Nat → List (List (List Int)) → Int → List (List (List Int))
  | 0, out, _ => out
  | f + 1, out, h => partsUp f (out.flatMap (nextAll h)) (h + 1)
theorem partsUp_all : ∀ (f : Nat) (out : List (List (List Int))) (h : Int), partsUp f out h = out.flatMap fun now => partsAll f now h
  | 0, out, h => by simp [partsUp, partsAll]
  | f + 1, out, h => by
    rw [partsUp, partsUp_all f, List.flatMap_assoc]
    refine flatMap_congr' (fun now _ => ?_)
    rw [partsAll, nextAll, List.flatMap_map]
theorem partsOf_ref {c : Roads} (hB : RoadsB c) : partsOf c = (partsUp c.loads.length [[]] 1).filter (lightB c) := by
  rw [partsUp_all]
  simp only [List.flatMap_cons, List.flatMap_nil, List.append_nil]
  exact parts_light hB _ _ _ (by simp [lightB])

/-! ### Which is better -/
def befPB : List (List Int) → List (List Int) → Bool
  | x :: a, y :: b => if x = y then befPB a b else befB x y
  | _, _ => false
def betterR (c : Roads) (a b : List (List Int)) : Bool :=
  if a.length ≠ b.length then decide (a.length < b.length) else decide (planLen c a < planLen c b) || (decide (planLen c a = planLen c b) && befPB a b)
theorem befB_cmp : ∀ a b : List Int, befB a b = decide (cmpL a b < 0)
  | [], [] => by simp [befB, cmpL]
  | [], y :: b => by simp [befB, cmpL]
  | x :: a, [] => by simp [befB, cmpL]
  | x :: a, y :: b => by
    unfold befB cmpL cmpI
    by_cases e : x = y
    · subst e; simp; exact befB_cmp a b
    · rw [if_neg e]
      by_cases hlt : x < y
      · simp [hlt]
      · have : y < x := by omega
        simp [hlt, this]
theorem befPB_cmp : ∀ {a b : List (List Int)}, a.length = b.length → befPB a b = decide (cmpLL a b < 0)
  | [], [], _ => by simp [befPB, cmpLL]
  | [], y :: b, h => by simp at h
  | x :: a, [], h => by simp at h
  | x :: a, y :: b, h => by
    simp only [List.length_cons, Nat.add_right_cancel_iff] at h
    unfold befPB cmpLL
    by_cases e : x = y
    · subst e
      rw [if_pos rfl, if_pos (cmpL_self x)]
      exact befPB_cmp h
    · rw [if_neg e, if_neg (fun k => e (cmpL_eq k))]
      exact befB_cmp x y
theorem better_ref (c : Roads) (a b : List (List Int)) : betterB c a b = betterR c a b := by
  unfold betterR
  by_cases hl : a.length = b.length
  · rw [if_neg (by simpa using hl)]
    have e1 : cmpI a.length b.length = 0 := by unfold cmpI; rw [if_neg (by omega), if_neg (by omega)]
    have e0 : betterB c a b = decide (orI [cmpI (planLen c a) (planLen c b), cmpLL a b] < 0) := by
      unfold betterB; rw [e1]; rfl
    rw [e0, befPB_cmp hl]
    generalize planLen c a = x
    generalize planLen c b = y
    by_cases h1 : x < y
    · have : cmpI x y = -1 := by unfold cmpI; rw [if_pos h1]
      rw [this]
      simp [orI, h1]
    · by_cases h2 : y < x
      · have : cmpI x y = 1 := by unfold cmpI; rw [if_neg h1, if_pos h2]
        rw [this]
        have h3 : ¬ x = y := by omega
        simp [orI, h1, h3]
      · have h3 : x = y := by omega
        subst h3
        have : cmpI x x = 0 := by unfold cmpI; simp
        rw [this]
        by_cases h4 : cmpLL a b = 0
        · simp [orI, h4]
        · simp [orI, h4]
  · rw [if_pos (by simpa using hl)]
    by_cases h1 : (a.length : Int) < b.length
    · have : cmpI a.length b.length = -1 := by unfold cmpI; rw [if_pos h1]
      unfold betterB
      rw [this]
      simp [orI]
      omega
    · have : cmpI a.length b.length = 1 := by unfold cmpI; rw [if_neg h1, if_pos (by omega)]
      unfold betterB
      rw [this]
      simp [orI]
      omega
/-- The reference's loop over all ways. -/
def refStep (c : Roads) (best : List (List Int)) (x : List (List Int)) : List (List Int) := if lightB c x && (decide (best.length = 0) || betterR c (sortL (x.map (refTour c))) best) then sortL (x.map (refTour c)) else best
def optL (o : Option (List (List Int))) : List (List Int) := o.getD []
theorem ref_fold {c : Roads} : ∀ (xs : List (List (List Int))) (o : Option (List (List Int))), (∀ x, x ∈ xs → x ≠ [] ∧ planOf c x = sortL (x.map (refTour c))) → (∀ y, o = some y → y ≠ []) →
    xs.foldl (refStep c) (optL o) = optL ((((xs.filter (lightB c)).map (planOf c))).foldl (stepBest (betterB c)) o) ∧ ∀ y, (((xs.filter (lightB c)).map (planOf c))).foldl (stepBest (betterB c)) o = some y → y ≠ []
  | [], o, _, ho => ⟨rfl, fun y hy => ho y hy⟩
  | x :: xs, o, hx, ho => by
    obtain ⟨h1, h2⟩ := hx x (by simp)
    have hne : planOf c x ≠ [] := fun e => by
      have := congrArg List.length e
      unfold planOf at this
      rw [(sortL_perm _).length_eq, List.length_map, List.length_nil] at this
      exact h1 (List.length_eq_zero_iff.1 this)
    rw [List.foldl_cons]
    cases hl : lightB c x with
    | false =>
      rw [List.filter_cons_of_neg (by rw [hl]; simp)]
      have : refStep c (optL o) x = optL o := by unfold refStep; rw [hl]; simp
      rw [this]
      exact ref_fold xs o (fun z hz => hx z (List.mem_cons_of_mem _ hz)) ho
    | true =>
      rw [List.filter_cons_of_pos hl, List.map_cons, List.foldl_cons]
      have hs : refStep c (optL o) x = optL (stepBest (betterB c) o (planOf c x)) := by
        unfold refStep
        rw [hl, ← h2, ← better_ref]
        cases o with
        | none => simp [optL, stepBest]
        | some y =>
          have hy : ¬ y.length = 0 := fun e => ho y rfl (List.length_eq_zero_iff.1 e)
          simp only [optL, Option.getD_some, hy, decide_false, Bool.false_or, Bool.true_and, stepBest]
          split <;> rfl
      rw [hs]
      refine ref_fold xs _ (fun z hz => hx z (List.mem_cons_of_mem _ hz)) (fun y hy => ?_)
      cases o with
      | none => cases hy; exact hne
      | some y0 =>
        simp only [stepBest] at hy
        split at hy <;> cases hy
        · exact hne
        · exact ho _ rfl
/-- What all ways have. -/
def WayOk (now : List (List Int)) (h : Int) : Prop := ∀ l, l ∈ now → l.Nodup ∧ l ≠ [] ∧ ∀ n, n ∈ l → 1 ≤ n ∧ n < h
theorem way_next {now : List (List Int)} {h : Int} {i : Nat} (hi : i ≤ now.length) (h1 : 1 ≤ h) (ho : WayOk now h) : WayOk (nextAt now i h) (h + 1) := by
  have hup : ∀ l, l ∈ now → l.Nodup ∧ l ≠ [] ∧ ∀ n, n ∈ l → 1 ≤ n ∧ n < h + 1 := fun l hl => ⟨(ho l hl).1, (ho l hl).2.1, fun n hn => by have := (ho l hl).2.2 n hn; omega⟩
  intro l hl
  by_cases hlt : i < now.length
  · rw [nextAt_lt hlt] at hl
    rcases List.mem_or_eq_of_mem_set hl with hl | rfl
    · exact hup l hl
    · have hm : now.getD i [] ∈ now := by rw [List.getD_eq_getElem?_getD, List.getElem?_eq_getElem hlt]; exact List.getElem_mem hlt
      obtain ⟨k1, k2, k3⟩ := ho _ hm
      refine ⟨?_, by simp, fun n hn => ?_⟩
      · rw [List.nodup_append]
        refine ⟨k1, by simp, fun a ha b hb e => ?_⟩
        rw [List.mem_singleton.1 hb] at e
        have := k3 a ha
        omega
      · rcases List.mem_append.1 hn with hn | hn
        · have := k3 n hn; omega
        · rw [List.mem_singleton.1 hn]; omega
  · have e : i = now.length := by omega
    subst e
    rw [nextAt_end] at hl
    rcases List.mem_append.1 hl with hl | hl
    · exact hup l hl
    · rw [List.mem_singleton.1 hl]
      exact ⟨by simp, by simp, fun n hn => by rw [List.mem_singleton.1 hn]; omega⟩
theorem nextAt_ne (now : List (List Int)) (i : Nat) (h : Int) : nextAt now i h ≠ [] := by
  unfold nextAt
  split
  · rename_i hi
    intro e
    have := congrArg List.length e
    simp at this
    subst this
    simp at hi
  · simp
theorem way_all : ∀ (f : Nat) (now : List (List Int)) (h : Int) (x : List (List Int)), 1 ≤ h → WayOk now h → x ∈ partsAll f now h → WayOk x (h + f) ∧ (1 ≤ f ∨ now ≠ [] → x ≠ [])
  | 0, now, h, x, _, ho, hx => by
    rw [partsAll, List.mem_singleton] at hx
    subst hx
    refine ⟨by simpa using ho, fun k => ?_⟩
    rcases k with k | k
    · omega
    · exact k
  | f + 1, now, h, x, h1, ho, hx => by
    rw [partsAll, List.mem_flatMap] at hx
    obtain ⟨i, hi, hx⟩ := hx
    have h2 := way_all f _ (h + 1) x (by omega) (way_next (by have := List.mem_range.1 hi; omega) h1 ho) hx
    refine ⟨?_, fun _ => h2.2 (.inr (nextAt_ne _ _ _))⟩
    have e : h + 1 + (f : Int) = h + ((f + 1 : Nat) : Int) := by omega
    rw [← e]
    exact h2.1
/-- All ways to part the houses. -/
def waysAll (c : Roads) : List (List (List Int)) := partsUp c.loads.length [[]] 1
theorem waysAll_eq (c : Roads) : waysAll c = partsAll c.loads.length [] 1 := by
  unfold waysAll; rw [partsUp_all]; simp
theorem waysAll_ok {c : Roads} (hB : RoadsB c) {x : List (List Int)} (hx : x ∈ waysAll c) : x ≠ [] ∧ ∀ l, l ∈ x → l.Nodup ∧ l ≠ [] ∧ ∀ n, n ∈ l → 1 ≤ n ∧ n ≤ c.loads.length := by
  rw [waysAll_eq] at hx
  have h := way_all c.loads.length [] 1 x (by omega) (fun l hl => by simp at hl) hx
  refine ⟨h.2 (.inl hB.n1), fun l hl => ?_⟩
  obtain ⟨k1, k2, k3⟩ := h.1 l hl
  exact ⟨k1, k2, fun n hn => by have := k3 n hn; omega⟩
/-- The reference's Plan is the best plan. -/
theorem refPlan_eq {c : Roads} (hB : RoadsB c) : (waysAll c).foldl (refStep c) [] = optL (bestPlan c) ∧ ∀ y, bestPlan c = some y → y ≠ [] := by
  have h := ref_fold (c := c) (waysAll c) none (fun x hx => ⟨(waysAll_ok hB hx).1, by
    unfold planOf
    congr 1
    exact List.map_congr_left (fun l hl => tourOf_ref ((waysAll_ok hB hx).2 l hl).1)⟩) (fun y hy => by cases hy)
  have e : bestPlan c = (((waysAll c).filter (lightB c)).map (planOf c)).foldl (stepBest (betterB c)) none := by
    unfold bestPlan plansOf firstBest waysAll
    rw [partsOf_ref hB]
  rw [e]
  exact h
end Go.Proofs.YtapkbonlijhmjaaGreatDoor
