/- CardMore in plain Lean: greater Slack, Off, Miss and Bears. -/
import Derived.Test.YtapkbonlijhmjaaGreatDoorFilld
import Derived.Test.YtapkbonlijhmjaaGreatDoorKnown
namespace Go.Proofs.YtapkbonlijhmjaaGreatDoor
open Go.RowKit

def wideH (m : Int) (h : House) : House := { h with miss := min 3 (h.miss + m) }
def wideR (m : Int) (r : Round) : Round := { r with slack := min 500 (r.slack + m), off := min 100 (r.off + m), houses := r.houses.map (wideH m) }
def wideC (m : Int) (c : Roads) : Roads := { c with bears := min 1000 (c.bears + m) }
theorem wide_round {r : Round} {m : Int} (hm : 0 ≤ m) (hb : isRoundB r = true) : isRoundB (wideR m r) = true := by
  rw [isRoundB_iff] at hb ⊢
  obtain ⟨g1, g2, g3, g4, g5, g6, g7, g8, g9, g10⟩ := hb
  refine ⟨g1, g2, g3, g4, g5, ?_, ?_, g8, ?_, ?_⟩
  · show 0 ≤ min 500 (r.slack + m) ∧ min 500 (r.slack + m) ≤ 500; omega
  · simpa [wideR] using g7
  · show 0 ≤ min 100 (r.off + m) ∧ min 100 (r.off + m) ≤ 100; omega
  · intro h hh
    obtain ⟨h0, h1, rfl⟩ := List.mem_map.1 (show h ∈ r.houses.map (wideH m) from hh)
    have h2 := badHouse_iff.1 (g10 h0 h1)
    rw [badHouse_iff]
    obtain ⟨q1, q2, q3, q4, q5, q6⟩ := h2
    refine ⟨q1, q2, q3, q4, ?_, q6⟩
    show 0 ≤ min 3 (h0.miss + m) ∧ min 3 (h0.miss + m) ≤ 3
    omega
theorem wide_ok {r : Round} {m b : Int} (hm : 0 ≤ m) (hB : RoundB r) {h : House} (hh : h ∈ r.houses) {free : Bool} {x : Int × Int} (ho : okB r b h free x = true) : okB (wideR m r) b (wideH m h) free x = true := by
  have hq := (badHouse_iff.1 (hB.hs h hh)).2.2.2.2.1
  have s1 := hB.s1
  have s2 := hB.s2
  unfold okB canB countsB nOf at ho ⊢
  simp only [Bool.and_eq_true, Bool.or_eq_true, decide_eq_true_eq, inB_iff] at ho ⊢
  obtain ⟨⟨⟨⟨k1, k2⟩, k3⟩, k4⟩, k5⟩ := ho
  refine ⟨⟨⟨⟨k1, k2⟩, k3⟩, ?_⟩, k5.imp id fun k => ?_⟩
  · show -(min 500 (r.slack + m)) ≤ _ ∧ _ ≤ min 500 (r.slack + m)
    have e1 : (wideR m r).per = r.per := rfl
    have e2 : (wideR m r).card = r.card := rfl
    have e3 : (wideH m h).weighed = h.weighed := rfl
    rw [e1, e2, e3]
    omega
  · show (-(min 3 (h.miss + m)) ≤ x.1 - h.full ∧ x.1 - h.full ≤ min 3 (h.miss + m)) ∧ (-(min 3 (h.miss + m)) ≤ x.2 - h.loose ∧ x.2 - h.loose ≤ min 3 (h.miss + m))
    omega
theorem wide_own {r : Round} {m b free : Int} (hm : 0 ≤ m) (hB : RoundB r) {i : Nat} {n : Int} (h : ownS r free b i n) : ownS (wideR m r) free b i n := by
  obtain ⟨h0, hh, x, hx, rfl⟩ := h
  refine ⟨wideH m h0, by show (r.houses.map (wideH m))[i]? = _; rw [List.getElem?_map, hh]; rfl, x, ?_, rfl⟩
  rw [mem_ways_iff] at hx ⊢
  exact ⟨wide_ok hm hB (List.mem_of_getElem? hh) hx.1, hx.2.1, hx.2.2.1, hx.2.2.2.1, hx.2.2.2.2⟩
theorem wide_len (m : Int) (r : Round) : (wideR m r).houses.length = r.houses.length := by simp [wideR]
theorem wide_pick {r : Round} {m b free : Int} (hm : 0 ≤ m) (hB : RoundB r) {f : Nat → Int} {a : Int} (h : PickR r free b f a) : PickR (wideR m r) free b f a := by
  have o1 := hB.o1
  have o2 := hB.o2
  obtain ⟨h1, h2, h3, h4⟩ := h
  refine ⟨fun j hj => wide_own hm hB (h1 j (by rwa [wide_len] at hj)), by rw [wide_len]; exact h2, ?_, ?_⟩
  · show r.all - min 100 (r.off + m) ≤ a; omega
  · show a ≤ r.all + min 100 (r.off + m); omega
theorem wide_agree {r : Round} {m free : Int} (hm : 0 ≤ m) (hb : isRoundB r = true) (ha : agreeB r free = true) : agreeB (wideR m r) free = true := by
  have hB := roundB_of hb
  have hB' := roundB_of (wide_round hm hb)
  obtain ⟨b, hb⟩ := (agreeB_iff hB).1 ha
  obtain ⟨h1, h2, f, a, h3⟩ := (buttonR_iff hB).1 hb
  exact (agreeB_iff hB').2 ⟨b, (buttonR_iff hB').2 ⟨h1, h2, f, a, wide_pick hm hB h3⟩⟩
theorem wide_known {r : Round} {m : Int} (hm : 0 ≤ m) (hb : isRoundB r = true) (ha : agreeB r (-1) = true) {i : Nat} {p q : Int × Int} (hp : (knownL r)[i]? = some p) (hq : (knownL (wideR m r))[i]? = some q) : q.1 ≤ p.1 ∧ p.2 ≤ q.2 := by
  have hB := roundB_of hb
  have hB' := roundB_of (wide_round hm hb)
  have hi : i < r.houses.length := by
    have := (List.getElem?_eq_some_iff.1 hp).1
    rwa [knownL_length] at this
  have hi' : i < (wideR m r).houses.length := by rw [wide_len]; exact hi
  rw [knownL_at r hi] at hp
  rw [knownL_at _ hi'] at hq
  cases hp
  cases hq
  have h1 := spanOf_ends (houseL_ne hB ha hi)
  have h2 := spanOf_ends (houseL_ne hB' (wide_agree hm hb ha) hi')
  have hsub : ∀ n, n ∈ houseL r (-1) i → n ∈ houseL (wideR m r) (-1) i := fun n hn => by
    rw [mem_houseL hB hi, houseR_iff hB hi] at hn
    obtain ⟨b, f, a, k1, k2, k3, k4⟩ := hn
    rw [mem_houseL hB' hi', houseR_iff hB' hi']
    exact ⟨b, f, a, k1, k2, wide_pick hm hB k3, k4⟩
  exact ⟨(h2.b _ (hsub _ h1.l)).1, (h2.b _ (hsub _ h1.h)).2⟩

/-! ### Plans -/
theorem wide_roads {c : Roads} {m : Int} (hm : 0 ≤ m) (h : isRoadsB c = true) : isRoadsB (wideC m c) = true := by
  have hB := roadsB_of h
  have b1 := hB.b1
  have b2 := hB.b2
  unfold isRoadsB at h ⊢
  simp only [Bool.and_eq_true, inB_iff] at h ⊢
  obtain ⟨⟨⟨⟨h1, h2⟩, h3⟩, h4⟩, h5⟩ := h
  refine ⟨⟨⟨⟨h1, ?_⟩, h3⟩, h4⟩, h5⟩
  show 0 ≤ min 1000 (c.bears + m) ∧ min 1000 (c.bears + m) ≤ 1000
  omega
theorem wide_parts {c : Roads} {m : Int} (hm : 0 ≤ m) (hb : c.bears ≤ 1000) : ∀ (f : Nat) (now : List (List Int)) (h : Int) (x : List (List Int)), x ∈ partsFrom c f now h → x ∈ partsFrom (wideC m c) f now h
  | 0, now, h, x, hx => hx
  | f + 1, now, h, x, hx => by
    simp only [partsFrom, List.mem_flatMap] at hx ⊢
    obtain ⟨i, hi, hx⟩ := hx
    refine ⟨i, hi, ?_⟩
    by_cases hc : c.bears < loadOf c ((nextAt now i h).getD i [])
    · rw [if_pos hc] at hx; simp at hx
    · rw [if_neg hc] at hx
      have e : loadOf (wideC m c) ((nextAt now i h).getD i []) = loadOf c ((nextAt now i h).getD i []) := rfl
      have e2 : (wideC m c).bears = min 1000 (c.bears + m) := rfl
      rw [if_neg (by rw [e, e2]; omega)]
      exact wide_parts hm hb f _ _ x hx
theorem parts_ne {c : Roads} (hl : ∀ x, x ∈ c.loads → x ≤ c.bears) (h0 : 0 ≤ c.bears) : ∀ (f : Nat) (now : List (List Int)) (h : Int), partsFrom c f now h ≠ []
  | 0, now, h => by simp [partsFrom]
  | f + 1, now, h => by
    obtain ⟨x, hx⟩ := List.exists_mem_of_ne_nil _ (parts_ne hl h0 f (nextAt now now.length h) (h + 1))
    refine List.ne_nil_of_mem (a := x) ?_
    simp only [partsFrom, List.mem_flatMap]
    refine ⟨now.length, List.mem_range.2 (by omega), ?_⟩
    have e : (nextAt now now.length h).getD now.length [] = [h] := by rw [nextAt_end]; simp
    rw [e, if_neg]
    · exact hx
    · have e2 : loadOf c [h] = c.loads.getD (h - 1).toNat 0 := by simp [loadOf]
      rw [e2, List.getD_eq_getElem?_getD]
      cases hq : c.loads[(h - 1).toNat]? with
      | none => simp; omega
      | some y => have := hl y (List.mem_of_getElem? hq); simp; omega
theorem le_maxL {l : List Int} {x : Int} (h : x ∈ l) : x ≤ maxL l := by
  cases l with
  | nil => simp at h
  | cons y l =>
    rcases List.mem_cons.1 h with rfl | h
    · exact (foldl_max_le l x).1
    · exact (foldl_max_le l y).2 x h
theorem better_len {c : Roads} {x y : List (List Int)} : (betterB c x y = true → x.length ≤ y.length) ∧ (betterB c x y = false → y.length ≤ x.length) := by
  by_cases h1 : (x.length : Int) < y.length
  · refine ⟨fun _ => by omega, fun h => ?_⟩
    have e : cmpI x.length y.length = -1 := by unfold cmpI; rw [if_pos h1]
    unfold betterB at h
    rw [e] at h
    simp [orI] at h
  · by_cases h2 : (y.length : Int) < x.length
    · refine ⟨fun h => ?_, fun _ => by omega⟩
      have e : cmpI x.length y.length = 1 := by unfold cmpI; rw [if_neg h1, if_pos h2]
      unfold betterB at h
      rw [e] at h
      simp [orI] at h
    · exact ⟨fun _ => by omega, fun _ => by omega⟩
theorem best_fold_len {c : Roads} : ∀ (xs : List (List (List Int))) (b p : List (List Int)), xs.foldl (stepBest (betterB c)) (some b) = some p → p.length ≤ b.length ∧ ∀ x, x ∈ xs → p.length ≤ x.length
  | [], b, p, h => by cases h; exact ⟨Nat.le_refl _, fun x hx => by simp at hx⟩
  | y :: xs, b, p, h => by
    rw [List.foldl_cons] at h
    have hs : stepBest (betterB c) (some b) y = if betterB c y b then some y else some b := rfl
    rw [hs] at h
    cases hc : betterB c y b with
    | true =>
      rw [hc, if_pos rfl] at h
      have h1 := best_fold_len xs y p h
      have h2 := better_len.1 hc
      refine ⟨Nat.le_trans h1.1 h2, fun x hx => ?_⟩
      rcases List.mem_cons.1 hx with rfl | hx
      · exact h1.1
      · exact h1.2 x hx
    | false =>
      rw [hc, if_neg (by simp)] at h
      have h1 := best_fold_len xs b p h
      have h2 := better_len.2 hc
      refine ⟨h1.1, fun x hx => ?_⟩
      rcases List.mem_cons.1 hx with rfl | hx
      · exact Nat.le_trans h1.1 h2
      · exact h1.2 x hx
theorem best_len {c : Roads} {p : List (List Int)} (h : bestPlan c = some p) : (∃ x, x ∈ partsOf c ∧ p.length = x.length) ∧ ∀ x, x ∈ partsOf c → p.length ≤ x.length := by
  have hlen : ∀ x, (planOf c x).length = x.length := fun x => by unfold planOf; rw [(sortL_perm _).length_eq, List.length_map]
  unfold bestPlan at h
  constructor
  · have hne : plansOf c ≠ [] := fun e => by rw [e] at h; simp [firstBest] at h
    obtain ⟨p', h1, hm⟩ := firstBest_mem (betterB c) hne
    rw [h1] at h
    cases h
    unfold plansOf at hm
    obtain ⟨x, hx, rfl⟩ := List.mem_map.1 hm
    exact ⟨x, hx, hlen x⟩
  · intro x hx
    unfold plansOf at h
    cases hp : partsOf c with
    | nil => rw [hp] at hx; simp at hx
    | cons y ys =>
      rw [hp] at h hx
      unfold firstBest at h
      rw [List.map_cons, List.foldl_cons, show stepBest (betterB c) none (planOf c y) = some (planOf c y) from rfl] at h
      have h1 := best_fold_len _ _ _ h
      rcases List.mem_cons.1 hx with rfl | hx
      · rw [← hlen x]; exact h1.1
      · rw [← hlen x]; exact h1.2 _ (List.mem_map.2 ⟨x, hx, rfl⟩)
theorem best_some {c : Roads} (hr : isRoadsB c = true) (hl : ¬ c.bears < maxL c.loads) : ∃ p, bestPlan c = some p := by
  have hB := roadsB_of hr
  have hne : partsOf c ≠ [] := parts_ne (fun x hx => by have := le_maxL hx; omega) hB.b1 _ _ _
  obtain ⟨p, h1, _⟩ := firstBest_mem (betterB c) (xs := plansOf c) (fun e => hne (List.map_eq_nil_iff.1 e))
  exact ⟨p, h1⟩
theorem wide_fewer {c : Roads} {m : Int} (hm : 0 ≤ m) (hr : isRoadsB c = true) {p q : List (List Int)} (hp : bestPlan c = some p) (hq : bestPlan (wideC m c) = some q) : q.length ≤ p.length := by
  obtain ⟨⟨x, hx, e⟩, _⟩ := best_len hp
  rw [e]
  exact (best_len hq).2 x (wide_parts hm (roadsB_of hr).b2 _ _ _ x hx)

/-! ### The loop that makes Miss greater -/
def wideUp (m : Int) (hs : List House) (k : Nat) : List House := (hs.take k).map (wideH m) ++ hs.drop k
theorem wideUp_zero (m : Int) (hs : List House) : wideUp m hs 0 = hs := by simp [wideUp]
theorem wideUp_all (m : Int) (hs : List House) : wideUp m hs hs.length = hs.map (wideH m) := by simp [wideUp]
theorem wideUp_len (m : Int) (hs : List House) (k : Nat) : (wideUp m hs k).length = hs.length := by simp [wideUp]; omega
theorem wideUp_at {m : Int} {hs : List House} {k : Nat} {h : House} (hk : hs[k]? = some h) : (wideUp m hs k)[k]? = some h := by
  have := (List.getElem?_eq_some_iff.1 hk).1
  unfold wideUp
  rw [List.getElem?_append_right (by simp; omega)]
  simp [Nat.min_eq_left (Nat.le_of_lt this), hk]
theorem wideUp_succ {m : Int} {hs : List House} {k : Nat} {h : House} (hk : hs[k]? = some h) : (wideUp m hs k).set k (wideH m h) = wideUp m hs (k + 1) := by
  obtain ⟨hlt, he⟩ := List.getElem?_eq_some_iff.1 hk
  have hl : ((hs.take k).map (wideH m)).length = k := by simp; omega
  unfold wideUp
  rw [List.set_append_right _ _ (by omega), hl, Nat.sub_self, List.drop_eq_getElem_cons hlt, he, List.set_cons_zero, List.take_add_one, hk]
  simp
theorem set_miss : ∀ (hs : List House) (k : Nat) (h : House) (m : Int), hs[k]? = some h → (hs.flatMap House.cells).set (k * 6 + 4) (.int .i64 m) = (hs.set k { h with miss := m }).flatMap House.cells
  | [], k, h, m, hk => by simp at hk
  | y :: hs, 0, h, m, hk => by
    simp only [List.getElem?_cons_zero, Option.some.injEq] at hk
    subst hk
    simp [House.cells]
  | y :: hs, k + 1, h, m, hk => by
    simp only [List.getElem?_cons_succ] at hk
    have ih := set_miss hs k h m hk
    have hc : y.cells.length = 6 := rfl
    simp only [List.flatMap_cons, List.set_cons_succ]
    rw [List.set_append_right _ _ (by rw [hc]; omega), hc, show (k + 1) * 6 + 4 - 6 = k * 6 + 4 by omega, ih]
theorem cell_miss : ∀ (hs : List House) (k : Nat) (h : House), hs[k]? = some h → (hs.flatMap House.cells)[k * 6 + 4]? = some (.int .i64 h.miss)
  | [], k, h, hk => by simp at hk
  | y :: hs, 0, h, hk => by
    simp only [List.getElem?_cons_zero, Option.some.injEq] at hk
    subst hk
    simp [House.cells]
  | y :: hs, k + 1, h, hk => by
    simp only [List.getElem?_cons_succ] at hk
    have ih := cell_miss hs k h hk
    have hc : y.cells.length = 6 := rfl
    simp only [List.flatMap_cons]
    rw [List.getElem?_append_right (by rw [hc]; omega), hc, show (k + 1) * 6 + 4 - 6 = k * 6 + 4 by omega, ih]
end Go.Proofs.YtapkbonlijhmjaaGreatDoor
