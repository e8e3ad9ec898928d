/- The reference's search of deals, as a list in the order of lists; its best is the best deal. -/
import Derived.Test.YtabkfohbdfpdpaaGreatDoorDealq8
namespace Go.Proofs.YtabkfohbdfpdpaaGreatDoor

theorem goodI_pre (b : Book) (x : Licence) : ∀ (ts : List Take) (now ns : List Int) (i : Int), goodI b x ts (now ++ ns) i = true → goodI b x ts now i = true
  | [], now, _, _, _ => by cases now <;> rfl
  | _ :: _, [], _, _, _ => rfl
  | t :: ts, n :: now, ns, i, h => by
    have h' : ((decide (n ≠ i) || goodB b x t) && goodI b x ts (now ++ ns) i) = true := h
    show ((decide (n ≠ i) || goodB b x t) && goodI b x ts now i) = true
    rw [Bool.and_eq_true] at h' ⊢
    exact ⟨h'.1, goodI_pre b x ts now ns i h'.2⟩
theorem sumI_pre : ∀ (ts : List Take) (now ns : List Int) (i : Int), (∀ t, t ∈ ts → 0 ≤ t.many) → sumI ts now i ≤ sumI ts (now ++ ns) i
  | [], now, ns, i, _ => by
    have h1 : sumI [] now i = 0 := by cases now <;> rfl
    have h2 : sumI [] (now ++ ns) i = 0 := by cases now ++ ns <;> rfl
    omega
  | t :: ts, [], ns, i, h => by
    have h1 : sumI (t :: ts) [] i = 0 := rfl
    have h2 := sumI_nn (t :: ts) ([] ++ ns) i h
    omega
  | t :: ts, n :: now, ns, i, h => by
    have ih := sumI_pre ts now ns i (fun x hx => h x (List.mem_cons_of_mem _ hx))
    show (if n = i then t.many else 0) + sumI ts now i ≤ (if n = i then t.many else 0) + sumI ts (now ++ ns) i
    omega
theorem rdeals_pre {b : Book} {l : List Licence} {ts : List Take} {now ns : List Int} (hm : ∀ t, t ∈ ts → 0 ≤ t.many) (h : rdealsB b l ts (now ++ ns) = true) : rdealsB b l ts now = true := by
  unfold rdealsB at *
  rw [List.all_eq_true] at *
  intro i hi
  have h1 := h i hi
  rw [Bool.and_eq_true, decide_eq_true_eq] at h1 ⊢
  have := sumI_pre ts now ns (i : Int) hm
  exact ⟨goodI_pre b _ ts now ns _ h1.1, by omega⟩
/-- The numbers that the search tries: -1, 0, .. -/
def idxs (n : Nat) : List Int := (List.range (n + 1)).map fun (k : Nat) => (k : Int) - 1
theorem mem_idxs {n : Nat} {i : Int} : i ∈ idxs n ↔ -1 ≤ i ∧ i ≤ (n : Int) - 1 := by
  unfold idxs
  rw [List.mem_map]
  constructor
  · rintro ⟨k, hk, rfl⟩
    have := List.mem_range.1 hk
    omega
  · rintro ⟨h1, h2⟩
    exact ⟨(i + 1).toNat, List.mem_range.2 (by omega), by omega⟩
theorem idxs_sorted (n : Nat) : (idxs n).Pairwise (fun x y => x < y) := by
  unfold idxs
  rw [List.pairwise_map]
  refine List.Pairwise.imp ?_ List.pairwise_lt_range
  intro a c h; omega
def elist (b : Book) (l : List Licence) (all : List Take) : List Take → List Int → List DealS
  | [], now => if rdealsB b l all now then [(now, restOf all now)] else []
  | _ :: rest, now => if rdealsB b l all now then (idxs l.length).flatMap fun i => elist b l all rest (now ++ [i]) else []
theorem elist_mem {b : Book} {l : List Licence} {all : List Take} (hm : ∀ t, t ∈ all → 0 ≤ t.many) : ∀ (rest : List Take) (now : List Int) (z : DealS),
    z ∈ elist b l all rest now ↔ ∃ ns, z = (now ++ ns, restOf all (now ++ ns)) ∧ ns.length = rest.length ∧ dealOkB l ns = true ∧ rdealsB b l all (now ++ ns) = true
  | [], now, z => by
    unfold elist
    by_cases h : rdealsB b l all now = true
    · rw [if_pos h, List.mem_singleton]
      constructor
      · rintro rfl; exact ⟨[], by simp, rfl, rfl, by simpa using h⟩
      · rintro ⟨ns, h1, h2, _, _⟩
        obtain rfl := List.eq_nil_of_length_eq_zero h2
        simpa using h1
    · rw [if_neg h]
      constructor
      · intro h; cases h
      · rintro ⟨ns, _, _, _, h4⟩
        exact absurd (rdeals_pre hm h4) h
  | t :: rest, now, z => by
    unfold elist
    by_cases h : rdealsB b l all now = true
    · rw [if_pos h, List.mem_flatMap]
      constructor
      · rintro ⟨i, hi, hz⟩
        obtain ⟨ns, h1, h2, h3, h4⟩ := (elist_mem hm rest _ _).1 hz
        refine ⟨i :: ns, by simpa using h1, by simpa using h2, ?_, by simpa using h4⟩
        rw [dealOkB_cons, h3, Bool.and_true, inB_iff]
        have := mem_idxs.1 hi
        omega
      · rintro ⟨ns, h1, h2, h3, h4⟩
        cases ns with
        | nil => cases h2
        | cons i ns =>
          rw [dealOkB_cons, Bool.and_eq_true, inB_iff] at h3
          refine ⟨i, mem_idxs.2 h3.1, (elist_mem hm rest _ _).2 ⟨ns, by simpa using h1, by simpa using h2, h3.2, by simpa using h4⟩⟩
    · rw [if_neg h]
      constructor
      · intro h; cases h
      · rintro ⟨ns, _, _, _, h4⟩
        exact absurd (rdeals_pre hm h4) h
theorem elist_sorted {b : Book} {l : List Licence} {all : List Take} (hm : ∀ t, t ∈ all → 0 ≤ t.many) : ∀ (rest : List Take) (now : List Int), (elist b l all rest now).Pairwise (fun x y => befI x.1 y.1 = true)
  | [], now => by
    unfold elist
    split
    · exact List.pairwise_singleton _ _
    · exact List.Pairwise.nil
  | t :: rest, now => by
    unfold elist
    split
    · rw [List.pairwise_flatMap]
      refine ⟨fun i _ => elist_sorted hm rest _, ?_⟩
      refine List.Pairwise.imp ?_ (idxs_sorted l.length)
      intro i j hij x hx y hy
      obtain ⟨ns, h1, _⟩ := (elist_mem hm rest _ _).1 hx
      obtain ⟨ms, h2, _⟩ := (elist_mem hm rest _ _).1 hy
      subst h1 h2
      simp only [List.append_assoc, List.singleton_append]
      rw [befI_app]; exact befI_lt _ _ hij
    · exact List.Pairwise.nil
/-- The best of the reference's search is the best deal. -/
theorem elist_best {b : Book} {l : List Licence} {ts : List Take} (hm : ∀ t, t ∈ ts → 0 ≤ t.many) (hq : ∀ x, x ∈ l → 0 ≤ x.quota) :
    firstBest (fun x y : DealS => decide (x.2 < y.2)) (elist b l ts ts []) = some (dealOf b l ts) := by
  have hmem : ∀ z, z ∈ elist b l ts ts [] ↔ z ∈ dealsFrom b l ts ([], 0) (List.replicate l.length 0) := fun z => by
    rw [elist_mem hm, deals_mem]
    constructor
    · rintro ⟨ns, rfl, h2, h3, h4⟩
      refine ⟨ns, rfl, h2, h3, ?_⟩
      rw [List.nil_append] at h4 ⊢
      rw [rdeals_eq hm hq h3] at h4
      unfold dealsB at h4
      exact Prod.ext h4 (by rw [go_rest b l ts ns _ _ h4 h3, Int.zero_add])
    · rintro ⟨ns, h1, h2, h3, h4⟩
      have h5 : (dealsB b l ts ns).1 = true := by unfold dealsB; rw [h4]
      refine ⟨ns, ?_, h2, h3, by rw [List.nil_append, rdeals_eq hm hq h3]; exact h5⟩
      have h6 := go_rest b l ts ns _ _ h5 h3
      rw [h4, Int.zero_add] at h6
      rw [List.nil_append] at h1 ⊢
      exact Prod.ext h1 h6
  obtain ⟨y0, k1, k2, k3⟩ := best_first (fun x y => befI x.1 y.1 = true) (deals_sorted b l ts ([], 0) (List.replicate l.length 0)) (dealsFrom_ne b l ts _ _)
  have he : dealOf b l ts = y0 := by unfold dealOf dealsOf; rw [k1]; rfl
  have hne : elist b l ts ts [] ≠ [] := fun h => by
    have := (hmem y0).2 k2
    rw [h] at this; cases this
  obtain ⟨y, h1, h2, h3⟩ := best_first (fun x y => befI x.1 y.1 = true) (elist_sorted (b := b) (l := l) hm ts []) hne
  rw [h1, he]
  congr 1
  have a1 := h3 y0 ((hmem y0).2 k2)
  have a2 := k3 y ((hmem y).1 h2)
  have e : y.2 = y0.2 := by have := a1.1; have := a2.1; omega
  rcases a2.2 e with h | h
  · exact h
  · rcases a1.2 e.symm with h' | h'
    · exact h'.symm
    · have := befI_asym _ _ h
      rw [this] at h'; cases h'
end Go.Proofs.YtabkfohbdfpdpaaGreatDoor
