/- CardFewest in plain Lean: the best plan is no worse than any plan. -/
import Derived.Test.YtapkbonlijhmjaaGreatDoorPlanp
import Derived.Test.YtapkbonlijhmjaaGreatDoorFirst
namespace Go.Proofs.YtapkbonlijhmjaaGreatDoor
open Go.RowKit

/-- Lists of houses are a plan. -/
def isPlanB (c : Roads) (P : List (List Int)) : Bool :=
  P.all (fun l => !l.isEmpty && decide (loadOf c l ≤ c.bears)) && decide (P.flatten.Nodup) && decide (P.flatten.length = c.loads.length)
def StopsOk (c : Roads) (P : List (List Int)) : Prop := ∀ l, l ∈ P → ∀ n, n ∈ l → 1 ≤ n ∧ n ≤ c.loads.length
def below (h : Nat) : List Int := (List.range h).map fun (i : Nat) => (i : Int) + 1
theorem below_succ (h : Nat) : below (h + 1) = below h ++ [(h : Int) + 1] := by unfold below; rw [List.range_succ]; simp
theorem mem_below {h : Nat} {n : Int} : n ∈ below h ↔ 1 ≤ n ∧ n ≤ h := by
  unfold below
  rw [List.mem_map]
  constructor
  · rintro ⟨i, hi, rfl⟩
    have := List.mem_range.1 hi
    omega
  · rintro ⟨h1, h2⟩
    exact ⟨(n - 1).toNat, List.mem_range.2 (by omega), by omega⟩
theorem below_rising : ∀ h : Nat, (below h).Pairwise (· < ·)
  | 0 => by simp [below]
  | h + 1 => by
    rw [below_succ, List.pairwise_append]
    refine ⟨below_rising h, by simp, fun a ha b hb => ?_⟩
    have := mem_below.1 ha
    rw [List.mem_singleton.1 hb]
    omega
/-- The houses up to h of the j-th list, in increasing order. -/
def grp (P : List (List Int)) (h j : Nat) : List Int := (below h).filter fun n => decide (n ∈ P.getD j [])
theorem grp_succ {P : List (List Int)} {h j : Nat} : grp P (h + 1) j = if (h : Int) + 1 ∈ P.getD j [] then grp P h j ++ [(h : Int) + 1] else grp P h j := by
  unfold grp
  rw [below_succ, List.filter_append]
  by_cases hm : (h : Int) + 1 ∈ P.getD j []
  · rw [if_pos hm]; simp only [List.filter_cons, hm, decide_true, if_true, List.filter_nil]
  · rw [if_neg hm]; simpa using hm
theorem disj {P : List (List Int)} (hd : P.flatten.Nodup) {n : Int} {i j : Nat} (hi : n ∈ P.getD i []) (hj : n ∈ P.getD j []) : i = j := by
  have key : ∀ {a b : Nat}, a < b → n ∈ P.getD a [] → n ∈ P.getD b [] → False := fun {a b} hab ha hb => by
    have hbl : b < P.length := by
      apply Classical.byContradiction
      intro h
      rw [List.getD_eq_getElem?_getD, List.getElem?_eq_none (by omega)] at hb
      simp at hb
    rw [List.getD_eq_getElem?_getD, List.getElem?_eq_getElem hbl] at hb
    rw [List.getD_eq_getElem?_getD, List.getElem?_eq_getElem (by omega)] at ha
    simp only [Option.getD_some] at ha hb
    have hp := (List.pairwise_flatten.1 hd).2
    rw [List.pairwise_iff_getElem] at hp
    exact hp a b (by omega) hbl hab n ha n hb rfl
  rcases Nat.lt_trichotomy i j with h | h | h
  · exact (key h hi hj).elim
  · exact h
  · exact (key h hj hi).elim
theorem way_of {P : List (List Int)} (hd : P.flatten.Nodup) {N : Nat} (hall : ∀ n : Int, 1 ≤ n → n ≤ N → ∃ j, n ∈ P.getD j []) : ∀ (f h : Nat) (ls : List Nat), h + f = N → ls.Nodup → (∀ n : Int, 1 ≤ n → n ≤ h → ∃ j, j ∈ ls ∧ n ∈ P.getD j []) → (∀ j, j ∈ ls → P.getD j [] ≠ []) →
    ∃ ls' : List Nat, ls'.Nodup ∧ (∀ n : Int, 1 ≤ n → n ≤ N → ∃ j, j ∈ ls' ∧ n ∈ P.getD j []) ∧ (∀ j, j ∈ ls' → P.getD j [] ≠ []) ∧ ls'.map (grp P N) ∈ partsAll f (ls.map (grp P h)) ((h : Int) + 1)
  | 0, h, ls, hf, hn, h1, h2 => by
    obtain rfl : h = N := by omega
    exact ⟨ls, hn, h1, h2, by simp [partsAll]⟩
  | f + 1, h, ls, hf, hn, h1, h2 => by
    obtain ⟨j, hj⟩ := hall ((h : Int) + 1) (by omega) (by omega)
    have hcast : ((h + 1 : Nat) : Int) + 1 = (h : Int) + 1 + 1 := by omega
    have hne : P.getD j [] ≠ [] := List.ne_nil_of_mem hj
    by_cases hjl : j ∈ ls
    · obtain ⟨i, hi, he⟩ := List.mem_iff_getElem.1 hjl
      have hstep : nextAt (ls.map (grp P h)) i ((h : Int) + 1) = ls.map (grp P (h + 1)) := by
        rw [nextAt_lt (by rw [List.length_map]; exact hi)]
        refine List.ext_getElem (by simp) (fun k k1 k2 => ?_)
        have hk : k < ls.length := by simpa using k2
        rw [List.getElem_set]
        simp only [List.getElem_map]
        rw [grp_succ]
        by_cases e : i = k
        · subst e
          rw [if_pos rfl, he, if_pos hj, List.getD_eq_getElem?_getD, List.getElem?_map, List.getElem?_eq_getElem hi, he]
          rfl
        · rw [if_neg e, if_neg]
          intro hm
          have := disj hd hj hm
          exact e ((List.getElem_inj hn).1 (he.trans this))
      obtain ⟨ls', q1, q2, q3, q4⟩ := way_of hd hall f (h + 1) ls (by omega) hn (fun n n1 n2 => by
        by_cases e : n ≤ h
        · exact h1 n n1 e
        · obtain rfl : n = (h : Int) + 1 := by omega
          exact ⟨j, hjl, hj⟩) h2
      refine ⟨ls', q1, q2, q3, ?_⟩
      rw [partsAll, List.mem_flatMap]
      refine ⟨i, List.mem_range.2 (by rw [List.length_map]; omega), ?_⟩
      rw [hstep, ← hcast]
      exact q4
    · have hstep : nextAt (ls.map (grp P h)) (ls.map (grp P h)).length ((h : Int) + 1) = (ls ++ [j]).map (grp P (h + 1)) := by
        rw [nextAt_end, List.map_append]
        have e1 : ls.map (grp P (h + 1)) = ls.map (grp P h) := by
          refine List.map_congr_left (fun k hk => ?_)
          rw [grp_succ, if_neg]
          intro hm
          exact hjl (disj hd hj hm ▸ hk)
        have e2 : grp P (h + 1) j = [(h : Int) + 1] := by
          rw [grp_succ, if_pos hj]
          have : grp P h j = [] := by
            unfold grp
            rw [List.filter_eq_nil_iff]
            intro n hn' hm
            obtain ⟨n1, n2⟩ := mem_below.1 hn'
            obtain ⟨k, hk, hnk⟩ := h1 n n1 n2
            exact hjl (disj hd (of_decide_eq_true hm) hnk ▸ hk)
          rw [this]; rfl
        rw [e1, List.map_singleton, e2]
      obtain ⟨ls', q1, q2, q3, q4⟩ := way_of hd hall f (h + 1) (ls ++ [j]) (by omega) (by
        rw [List.nodup_append]
        refine ⟨hn, by simp, fun a ha b hb e => ?_⟩
        rw [List.mem_singleton.1 hb] at e
        subst e
        exact hjl ha) (fun n n1 n2 => by
        by_cases e : n ≤ h
        · obtain ⟨k, k1, k2⟩ := h1 n n1 e
          exact ⟨k, List.mem_append_left _ k1, k2⟩
        · obtain rfl : n = (h : Int) + 1 := by omega
          exact ⟨j, by simp, hj⟩) (fun k hk => by
        rcases List.mem_append.1 hk with hk | hk
        · exact h2 k hk
        · rw [List.mem_singleton.1 hk]; exact hne)
      refine ⟨ls', q1, q2, q3, ?_⟩
      rw [partsAll, List.mem_flatMap]
      refine ⟨(ls.map (grp P h)).length, List.mem_range.2 (by omega), ?_⟩
      rw [hstep, ← hcast]
      exact q4
/-- The lists of a plan, each in increasing order. -/
def risen (P : List (List Int)) (N : Nat) : List (List Int) := (List.range P.length).map (grp P N)
theorem plan_all {c : Roads} {P : List (List Int)} (hs : StopsOk c P) (hp : isPlanB c P = true) : ∀ n : Int, 1 ≤ n → n ≤ c.loads.length → ∃ j, n ∈ P.getD j [] := by
  unfold isPlanB at hp
  rw [Bool.and_eq_true, Bool.and_eq_true, decide_eq_true_eq, decide_eq_true_eq] at hp
  obtain ⟨⟨_, hd⟩, hl⟩ := hp
  have hperm : P.flatten.Perm (below c.loads.length) := perm_of_sub hd (fun n hn => by
    obtain ⟨l, hl, hn⟩ := List.mem_flatten.1 hn
    exact mem_below.2 (hs l hl n hn)) (by rw [hl]; simp [below])
  intro n n1 n2
  have hm := hperm.mem_iff.2 (mem_below.2 ⟨n1, n2⟩)
  obtain ⟨l, hl, hn⟩ := List.mem_flatten.1 hm
  obtain ⟨j, hj, rfl⟩ := List.mem_iff_getElem.1 hl
  exact ⟨j, by rw [List.getD_eq_getElem?_getD, List.getElem?_eq_getElem hj]; exact hn⟩
theorem grp_perm {c : Roads} {P : List (List Int)} (hs : StopsOk c P) (hd : P.flatten.Nodup) {j : Nat} (hj : j < P.length) : (grp P c.loads.length j).Perm P[j] := by
  have hg : P.getD j [] = P[j] := by rw [List.getD_eq_getElem?_getD, List.getElem?_eq_getElem hj]; rfl
  have hnd : (P[j]).Nodup := (List.pairwise_flatten.1 hd).1 _ (List.getElem_mem hj)
  have hgn : (grp P c.loads.length j).Nodup := by
    unfold grp
    exact ((below_rising c.loads.length).imp (S := (· ≠ ·)) (fun h e => by omega)).filter _
  refine (List.perm_ext_iff_of_nodup hgn hnd).2 (fun n => ?_)
  unfold grp
  rw [List.mem_filter, decide_eq_true_eq, hg, mem_below]
  exact ⟨fun h => h.2, fun h => ⟨hs _ (List.getElem_mem hj) n h, h⟩⟩
theorem plan_way {c : Roads} (hB : RoadsB c) {P : List (List Int)} (hs : StopsOk c P) (hp : isPlanB c P = true) : ∃ x, x ∈ partsOf c ∧ x.Perm (risen P c.loads.length) := by
  have hall := plan_all hs hp
  have hp' := hp
  unfold isPlanB at hp'
  rw [Bool.and_eq_true, Bool.and_eq_true, decide_eq_true_eq, decide_eq_true_eq] at hp'
  obtain ⟨⟨hl, hd⟩, _⟩ := hp'
  rw [List.all_eq_true] at hl
  obtain ⟨ls, q1, q2, q3, q4⟩ := way_of hd hall c.loads.length 0 [] (by omega) (by simp) (fun n n1 n2 => by omega) (fun j hj => by simp at hj)
  have hlt : ∀ j, j ∈ ls → j < P.length := fun j hj => by
    apply Classical.byContradiction
    intro h
    refine q3 j hj ?_
    rw [List.getD_eq_getElem?_getD, List.getElem?_eq_none (by omega)]; rfl
  have hperm : ls.Perm (List.range P.length) := (List.perm_ext_iff_of_nodup q1 List.nodup_range).2 (fun j => by
    rw [List.mem_range]
    refine ⟨hlt j, fun hj => ?_⟩
    have hk := hl _ (List.getElem_mem hj)
    rw [Bool.and_eq_true, Bool.not_eq_true', List.isEmpty_eq_false_iff] at hk
    obtain ⟨n, hn⟩ := List.exists_mem_of_ne_nil _ hk.1
    have hg : P.getD j [] = P[j] := by rw [List.getD_eq_getElem?_getD, List.getElem?_eq_getElem hj]; rfl
    have hr := hs _ (List.getElem_mem hj) n hn
    obtain ⟨k, k1, k2⟩ := q2 n hr.1 hr.2
    rw [← hg] at hn
    rwa [disj hd hn k2])
  refine ⟨ls.map (grp P c.loads.length), ?_, hperm.map _⟩
  rw [partsOf_ref hB]
  refine List.mem_filter.2 ⟨?_, ?_⟩
  · have := waysAll_eq c
    unfold waysAll at this
    rw [this]
    exact q4
  · rw [light_mem]
    intro l hl'
    obtain ⟨j, hj, rfl⟩ := List.mem_map.1 hl'
    have hjl := hlt j hj
    rw [loadOf_perm (grp_perm hs hd hjl)]
    have hk := hl _ (List.getElem_mem hjl)
    rw [Bool.and_eq_true, decide_eq_true_eq] at hk
    exact hk.2

/-! ### No plan is better -/
theorem cmpLL_trans : ∀ {a b c : List (List Int)}, cmpLL a b ≤ 0 → cmpLL b c ≤ 0 → cmpLL a c ≤ 0
  | [], _, [], _, _ => by simp [cmpLL]
  | [], _, _ :: _, _, _ => by simp [cmpLL]
  | _ :: _, [], _, h, _ => by simp [cmpLL] at h
  | _ :: _, _ :: _, [], _, h => by simp [cmpLL] at h
  | x :: a, y :: b, z :: c, h, k => by
    have t := @cmpL_trans x y z
    simp only [cmpLL] at h k ⊢
    by_cases h1 : cmpL x y = 0
    · have e1 := cmpL_eq h1
      subst e1
      rw [if_pos h1] at h
      by_cases h2 : cmpL x z = 0
      · rw [if_pos h2] at k ⊢
        exact cmpLL_trans h k
      · rw [if_neg h2] at k ⊢; exact k
    · rw [if_neg h1] at h
      by_cases h2 : cmpL y z = 0
      · have e2 := cmpL_eq h2
        subst e2
        rw [if_neg h1]
        exact h
      · rw [if_neg h2] at k
        have h3 := t h k
        have h4 : ¬ cmpL x z = 0 := fun e => by
          have e3 := cmpL_eq e
          subst e3
          have := cmpL_neg x y
          omega
        rw [if_neg h4]
        exact h3
theorem cmpLL_self : ∀ a : List (List Int), cmpLL a a = 0
  | [] => rfl
  | x :: a => by simp only [cmpLL, cmpL_self, if_true]; exact cmpLL_self a
theorem cmpLL_neg : ∀ (a b : List (List Int)), cmpLL b a = -cmpLL a b
  | [], [] => rfl
  | [], _ :: _ => rfl
  | _ :: _, [] => rfl
  | x :: a, y :: b => by
    have := cmpL_neg x y
    simp only [cmpLL]
    by_cases h : cmpL x y = 0
    · rw [if_pos h, if_pos (by omega)]; exact cmpLL_neg a b
    · rw [if_neg h, if_neg (by omega)]; exact this
/-- A plan is no worse than another one. -/
def Nowise (c : Roads) (p z : List (List Int)) : Prop := p.length < z.length ∨ (p.length = z.length ∧ (planLen c p < planLen c z ∨ (planLen c p = planLen c z ∧ cmpLL p z ≤ 0)))
theorem Nowise.trans {c : Roads} {a b d : List (List Int)} (h : Nowise c a b) (k : Nowise c b d) : Nowise c a d := by
  unfold Nowise at *
  rcases h with h | ⟨h1, h | ⟨h2, h3⟩⟩ <;> rcases k with k | ⟨k1, k | ⟨k2, k3⟩⟩
  · exact .inl (by omega)
  · exact .inl (by omega)
  · exact .inl (by omega)
  · exact .inl (by omega)
  · exact .inr ⟨by omega, .inl (by omega)⟩
  · exact .inr ⟨by omega, .inl (by omega)⟩
  · exact .inl (by omega)
  · exact .inr ⟨by omega, .inl (by omega)⟩
  · exact .inr ⟨by omega, .inr ⟨by omega, cmpLL_trans h3 k3⟩⟩
theorem nowise_of {c : Roads} {p z : List (List Int)} : betterB c z p = false ↔ Nowise c p z := by
  rw [better_ref]
  unfold betterR Nowise
  by_cases hl : z.length = p.length
  · rw [if_neg (by simpa using hl), befPB_cmp hl]
    have hn := cmpLL_neg z p
    simp only [Bool.or_eq_false_iff, Bool.and_eq_false_iff, decide_eq_false_iff_not]
    constructor
    · rintro ⟨h1, h2⟩
      refine .inr ⟨hl.symm, ?_⟩
      rcases h2 with h2 | h2
      · exact .inl (by omega)
      · by_cases e : planLen c p = planLen c z
        · exact .inr ⟨e, by omega⟩
        · exact .inl (by omega)
    · rintro (h | ⟨_, h | ⟨h1, h2⟩⟩)
      · omega
      · exact ⟨by omega, .inl (by omega)⟩
      · exact ⟨by omega, .inr (by omega)⟩
  · rw [if_pos (by simpa using hl)]
    rw [decide_eq_false_iff_not]
    constructor
    · intro h; exact .inl (by omega)
    · rintro (h | ⟨h, _⟩) <;> omega
theorem nowise_self (c : Roads) (p : List (List Int)) : Nowise c p p := .inr ⟨rfl, .inr ⟨rfl, by rw [cmpLL_self]; omega⟩⟩
theorem nowise_total {c : Roads} {p z : List (List Int)} (h : betterB c z p = true) : Nowise c z p := by
  rw [better_ref] at h
  unfold betterR at h
  unfold Nowise
  by_cases hl : z.length = p.length
  · rw [if_neg (by simpa using hl), befPB_cmp hl] at h
    simp only [Bool.or_eq_true, Bool.and_eq_true, decide_eq_true_eq] at h
    rcases h with h | ⟨h1, h2⟩
    · exact .inr ⟨hl, .inl h⟩
    · exact .inr ⟨hl, .inr ⟨h1, by omega⟩⟩
  · rw [if_pos (by simpa using hl), decide_eq_true_eq] at h
    exact .inl h
theorem best_fold_now {c : Roads} : ∀ (xs : List (List (List Int))) (b p : List (List Int)), xs.foldl (stepBest (betterB c)) (some b) = some p → Nowise c p b ∧ ∀ x, x ∈ xs → Nowise c p x
  | [], b, p, h => by cases h; exact ⟨nowise_self c b, fun x hx => by simp at hx⟩
  | y :: xs, b, p, h => by
    rw [List.foldl_cons] at h
    have hs : stepBest (betterB c) (some b) y = if betterB c y b then some y else some b := rfl
    rw [hs] at h
    cases hc : betterB c y b with
    | true =>
      rw [hc, if_pos rfl] at h
      have h1 := best_fold_now xs y p h
      refine ⟨h1.1.trans (nowise_total hc), fun x hx => ?_⟩
      rcases List.mem_cons.1 hx with rfl | hx
      · exact h1.1
      · exact h1.2 x hx
    | false =>
      rw [hc, if_neg (by simp)] at h
      have h1 := best_fold_now xs b p h
      refine ⟨h1.1, fun x hx => ?_⟩
      rcases List.mem_cons.1 hx with rfl | hx
      · exact h1.1.trans (nowise_of.1 hc)
      · exact h1.2 x hx
theorem best_now {c : Roads} {p : List (List Int)} (h : bestPlan c = some p) : ∀ x, x ∈ partsOf c → Nowise c p (planOf c x) := by
  intro x hx
  unfold bestPlan plansOf at h
  cases hp : partsOf c with
  | nil => rw [hp] at hx; simp at hx
  | cons y ys =>
    rw [hp] at h hx
    unfold firstBest at h
    rw [List.map_cons, List.foldl_cons, show stepBest (betterB c) none (planOf c y) = some (planOf c y) from rfl] at h
    have h1 := best_fold_now _ _ _ h
    rcases List.mem_cons.1 hx with rfl | hx
    · exact h1.1
    · exact h1.2 _ (List.mem_map.2 ⟨x, hx, rfl⟩)
/-- In order is first in order. -/
theorem sorted_first : ∀ {S Z : List (List Int)}, S.Pairwise (fun a b => leL a b = true) → Z.Perm S → cmpLL S Z ≤ 0
  | [], Z, _, hp => by rw [hp.eq_nil]; simp [cmpLL]
  | s :: S, [], _, hp => by have := hp.length_eq; simp at this
  | s :: S, z :: Z, hs, hp => by
    obtain ⟨h1, h2⟩ := List.pairwise_cons.1 hs
    have hle : cmpL s z ≤ 0 := by
      rcases List.mem_cons.1 (hp.mem_iff.1 (show z ∈ z :: Z by simp)) with rfl | hz
      · rw [cmpL_self]; omega
      · have := h1 z hz
        simpa [leL] using this
    simp only [cmpLL]
    by_cases e : cmpL s z = 0
    · rw [if_pos e]
      have e2 := cmpL_eq e
      subst e2
      exact sorted_first h2 ((List.perm_cons _).1 hp)
    · rw [if_neg e]; exact hle
theorem cmpLL_le : ∀ {Z P : List (List Int)}, Z.length = P.length → (∀ j, j < P.length → cmpL (Z.getD j []) (P.getD j []) ≤ 0) → cmpLL Z P ≤ 0
  | [], [], _, _ => by simp [cmpLL]
  | [], y :: P, h, _ => by simp at h
  | x :: Z, [], h, _ => by simp at h
  | x :: Z, y :: P, h, k => by
    have h0 := k 0 (by simp)
    simp only [List.getD_cons_zero] at h0
    simp only [cmpLL]
    by_cases e : cmpL x y = 0
    · rw [if_pos e]
      exact cmpLL_le (by simpa using h) (fun j hj => by have := k (j + 1) (by simpa using hj); simpa only [List.getD_cons_succ] using this)
    · rw [if_neg e]; exact h0
theorem sum_le_eq : ∀ {a b : List Int}, a.length = b.length → (∀ j, j < b.length → a.getD j 0 ≤ b.getD j 0) → a.sum ≤ b.sum ∧ (a.sum = b.sum → ∀ j, j < b.length → a.getD j 0 = b.getD j 0)
  | [], [], _, _ => ⟨by simp, fun _ j hj => by simp at hj⟩
  | [], y :: b, h, _ => by simp at h
  | x :: a, [], h, _ => by simp at h
  | x :: a, y :: b, h, k => by
    have h0 := k 0 (by simp)
    simp only [List.getD_cons_zero] at h0
    have ih := sum_le_eq (a := a) (b := b) (by simpa using h) (fun j hj => by have := k (j + 1) (by simpa using hj); simpa only [List.getD_cons_succ] using this)
    rw [List.sum_cons, List.sum_cons]
    refine ⟨by omega, fun e j hj => ?_⟩
    cases j with
    | zero => simp only [List.getD_cons_zero]; omega
    | succ j => simp only [List.getD_cons_succ]; exact ih.2 (by omega) j (by simpa using hj)
theorem grp_stops {c : Roads} {P : List (List Int)} {j : Nat} : badStops c (grp P c.loads.length j) = false := by
  have hr : (grp P c.loads.length j).Pairwise (· < ·) := (below_rising _).filter _
  have hm : ∀ n, n ∈ grp P c.loads.length j → 1 ≤ n ∧ n ≤ c.loads.length := fun n hn => mem_below.1 (List.mem_filter.1 hn).1
  generalize grp P c.loads.length j = l at hr hm
  rw [stops_parts, Bool.not_eq_false', Bool.and_eq_true]
  constructor
  · unfold someB
    rw [List.all_eq_true]
    intro n hn
    have := hm n hn
    exact inB_iff.2 this
  · unfold risingB
    rw [Bool.not_eq_true', List.any_eq_false]
    intro i hi
    have hi' := List.mem_range.1 hi
    have h1 := List.pairwise_iff_getElem.1 hr i (i + 1) (by omega) (by omega) (by omega)
    unfold riseAt
    rw [decide_eq_true_eq, List.getD_eq_getElem?_getD, List.getD_eq_getElem?_getD, List.getElem?_eq_getElem (by omega), List.getElem?_eq_getElem (by omega)]
    simp only [Option.getD_some]
    omega
theorem tours_of {c : Roads} {P : List (List Int)} (hs : StopsOk c P) (hd : P.flatten.Nodup) {j : Nat} (hj : j < P.length) :
    lengthOf c (tourOf c (grp P c.loads.length j)) < lengthOf c P[j] ∨ (lengthOf c P[j] = lengthOf c (tourOf c (grp P c.loads.length j)) ∧ befB P[j] (tourOf c (grp P c.loads.length j)) = false) := by
  have hb := grp_stops (c := c) (P := P) (j := j)
  have h := tour_first hb (grp_perm hs hd hj).symm
  rw [tourOf_ref (nodup_of_stops hb)]
  exact h
theorem planOf_perm {c : Roads} {x y : List (List Int)} (h : x.Perm y) : planOf c x = planOf c y := by
  unfold planOf
  exact sortL_eq ((sortL_perm _).trans (h.map _)) (List.pairwise_mergeSort leL_trans leL_total _)
theorem fewest_now {c : Roads} (hB : RoadsB c) {p P : List (List Int)} (h : bestPlan c = some p) (hs : StopsOk c P) (hp : isPlanB c P = true) : Nowise c p P := by
  obtain ⟨x, hx, hxp⟩ := plan_way hB hs hp
  have h1 := best_now h x hx
  rw [planOf_perm hxp] at h1
  refine h1.trans ?_
  have hd : P.flatten.Nodup := by
    unfold isPlanB at hp
    rw [Bool.and_eq_true, Bool.and_eq_true, decide_eq_true_eq] at hp
    exact hp.1.2
  have hl0 : (risen P c.loads.length).length = P.length := by simp [risen]
  have hat : ∀ j, j < P.length → ((risen P c.loads.length).map (tourOf c)).getD j [] = tourOf c (grp P c.loads.length j) := fun j hj => by
    unfold risen
    rw [List.getD_eq_getElem?_getD, List.getElem?_map, List.getElem?_map, List.getElem?_range hj]; rfl
  have hlen : (planOf c (risen P c.loads.length)).length = P.length := by unfold planOf; rw [(sortL_perm _).length_eq, List.length_map, hl0]
  have hg : ∀ j (hj : j < P.length), P.getD j [] = P[j] := fun j hj => by rw [List.getD_eq_getElem?_getD, List.getElem?_eq_getElem hj]; rfl
  have hpl : planLen c (planOf c (risen P c.loads.length)) = planLen c ((risen P c.loads.length).map (tourOf c)) := planLen_perm (sortL_perm _)
  have hm : ∀ (L : List (List Int)) j, j < L.length → (L.map (lengthOf c)).getD j 0 = lengthOf c (L.getD j []) := fun L j hj => by
    rw [List.getD_eq_getElem?_getD, List.getElem?_map, List.getD_eq_getElem?_getD, List.getElem?_eq_getElem hj]; rfl
  have hsum := sum_le_eq (a := ((risen P c.loads.length).map (tourOf c)).map (lengthOf c)) (b := P.map (lengthOf c)) (by simp [risen]) (fun j hj => by
    have hj' : j < P.length := by simpa using hj
    rw [hm _ j (by rw [List.length_map, hl0]; exact hj'), hm P j hj', hat j hj', hg j hj']
    rcases tours_of hs hd hj' with k | ⟨k, _⟩ <;> omega)
  refine .inr ⟨hlen, ?_⟩
  rw [hpl]
  by_cases e : planLen c ((risen P c.loads.length).map (tourOf c)) = planLen c P
  · refine .inr ⟨e, cmpLL_trans (b := (risen P c.loads.length).map (tourOf c)) (sorted_first (List.pairwise_mergeSort leL_trans leL_total _) (sortL_perm _).symm) (cmpLL_le (by rw [List.length_map, hl0]) (fun j hj => ?_))⟩
    have k := hsum.2 e j (by rw [List.length_map]; exact hj)
    rw [hm _ j (by rw [List.length_map, hl0]; exact hj), hm P j hj] at k
    rw [hat j hj, hg j hj] at k ⊢
    rcases tours_of hs hd hj with q | ⟨_, q⟩
    · omega
    · rw [befB_cmp, decide_eq_false_iff_not] at q
      have := cmpL_neg P[j] (tourOf c (grp P c.loads.length j))
      omega
  · have := hsum.1
    unfold planLen at e ⊢
    exact .inl (by omega)

/-! ### The best plan is a plan; there is none where a house is too heavy -/
theorem set_flatten : ∀ (now : List (List Int)) (i : Nat) (h : Int), i < now.length → (now.set i (now.getD i [] ++ [h])).flatten.Perm (h :: now.flatten)
  | [], i, h, hi => by simp at hi
  | x :: now, 0, h, _ => by
    simp only [List.getD_cons_zero, List.set_cons_zero, List.flatten_cons, List.append_assoc, List.singleton_append]
    exact List.perm_middle
  | x :: now, i + 1, h, hi => by
    simp only [List.getD_cons_succ, List.set_cons_succ, List.flatten_cons]
    exact ((set_flatten now i h (by simpa using hi)).append_left x).trans List.perm_middle
theorem next_flatten {now : List (List Int)} {i : Nat} {h : Int} (hi : i ≤ now.length) : (nextAt now i h).flatten.Perm (h :: now.flatten) := by
  by_cases hlt : i < now.length
  · rw [nextAt_lt hlt]; exact set_flatten now i h hlt
  · have e : i = now.length := by omega
    subst e
    rw [nextAt_end, List.flatten_append]
    simp only [List.flatten_cons, List.flatten_nil, List.append_nil]
    exact List.perm_append_singleton _ _
theorem way_flatten : ∀ (f h : Nat) (now : List (List Int)) (x : List (List Int)), x ∈ partsAll f now ((h : Int) + 1) → now.flatten.Perm (below h) → x.flatten.Perm (below (h + f))
  | 0, h, now, x, hx, hn => by
    rw [partsAll, List.mem_singleton] at hx
    subst hx
    exact hn
  | f + 1, h, now, x, hx, hn => by
    rw [partsAll, List.mem_flatMap] at hx
    obtain ⟨i, hi, hx⟩ := hx
    have hcast : (h : Int) + 1 + 1 = ((h + 1 : Nat) : Int) + 1 := by omega
    rw [hcast] at hx
    have := way_flatten f (h + 1) _ x hx (by
      rw [below_succ]
      exact ((next_flatten (by have := List.mem_range.1 hi; omega)).trans (hn.cons _)).trans (List.perm_append_singleton _ _).symm)
    rwa [show h + 1 + f = h + (f + 1) by omega] at this
theorem map_flatten {g : List Int → List Int} : ∀ {x : List (List Int)}, (∀ l, l ∈ x → (g l).Perm l) → (x.map g).flatten.Perm x.flatten
  | [], _ => List.Perm.refl _
  | l :: x, h => by
    simp only [List.map_cons, List.flatten_cons]
    exact (h l (by simp)).append (map_flatten (fun k hk => h k (List.mem_cons_of_mem _ hk)))
theorem best_plan_ok {c : Roads} (hB : RoadsB c) {p : List (List Int)} (h : bestPlan c = some p) : isPlanB c p = true ∧ StopsOk c p := by
  have hne : plansOf c ≠ [] := fun e => by unfold bestPlan at h; rw [e] at h; simp [firstBest] at h
  obtain ⟨p', h1, hm⟩ := firstBest_mem (betterB c) hne
  unfold bestPlan at h
  rw [h1] at h
  cases h
  unfold plansOf at hm
  obtain ⟨x, hx, rfl⟩ := List.mem_map.1 hm
  rw [partsOf_ref hB] at hx
  obtain ⟨hx, hlight⟩ := List.mem_filter.1 hx
  have hok := waysAll_ok hB (x := x) hx
  have hx' : x ∈ partsAll c.loads.length [] (((0 : Nat) : Int) + 1) := by
    have := waysAll_eq c
    unfold waysAll at this
    rw [this] at hx
    exact hx
  have hfl := way_flatten c.loads.length 0 [] x hx' (by simp [below])
  rw [Nat.zero_add] at hfl
  have htp : ∀ l, l ∈ x → (tourOf c l).Perm l := fun l hl => by
    rw [tourOf_ref (hok.2 l hl).1]; exact refTour_perm (hok.2 l hl).1
  have hpf : (planOf c x).flatten.Perm (below c.loads.length) := by
    unfold planOf
    exact ((sortL_perm _).flatten.trans (map_flatten htp)).trans hfl
  have hmem : ∀ l, l ∈ planOf c x → ∃ k, k ∈ x ∧ l.Perm k := fun l hl => by
    unfold planOf at hl
    obtain ⟨k, hk, rfl⟩ := List.mem_map.1 ((sortL_perm _).mem_iff.1 hl)
    exact ⟨k, hk, htp k hk⟩
  have hstop : StopsOk c (planOf c x) := fun l hl n hn => by
    obtain ⟨k, hk, hp⟩ := hmem l hl
    exact (hok.2 k hk).2.2 n (hp.mem_iff.1 hn)
  refine ⟨?_, hstop⟩
  unfold isPlanB
  rw [Bool.and_eq_true, Bool.and_eq_true, decide_eq_true_eq, decide_eq_true_eq, List.all_eq_true]
  refine ⟨⟨fun l hl => ?_, ?_⟩, ?_⟩
  · obtain ⟨k, hk, hp⟩ := hmem l hl
    rw [Bool.and_eq_true, Bool.not_eq_true', List.isEmpty_eq_false_iff, decide_eq_true_eq]
    refine ⟨fun e => ?_, ?_⟩
    · subst e
      exact (hok.2 k hk).2.1 hp.symm.eq_nil
    · rw [loadOf_perm hp]
      exact light_mem.1 hlight k hk
  · exact hpf.nodup_iff.2 ((below_rising c.loads.length).imp (S := (· ≠ ·)) (fun h e => by omega))
  · rw [hpf.length_eq]; simp [below]
theorem load_ge {c : Roads} (hB : RoadsB c) : ∀ {l : List Int} {n : Int}, n ∈ l → c.loads.getD (n - 1).toNat 0 ≤ loadOf c l
  | [], n, h => by simp at h
  | x :: l, n, h => by
    have h0 : loadOf c (x :: l) = c.loads.getD (x - 1).toNat 0 + loadOf c l := by simp [loadOf]
    have hnn : ∀ k : List Int, 0 ≤ loadOf c k := fun k => by
      induction k with
      | nil => simp [loadOf]
      | cons y k ih =>
        have e : loadOf c (y :: k) = c.loads.getD (y - 1).toNat 0 + loadOf c k := by simp [loadOf]
        have := load_one hB y
        omega
    have h1 := hnn l
    have h2 := load_one hB x
    rcases List.mem_cons.1 h with rfl | h
    · omega
    · have := load_ge hB h; omega
theorem maxL_mem : ∀ {l : List Int}, l ≠ [] → maxL l ∈ l
  | [], h => absurd rfl h
  | x :: l, _ => foldl_max_mem l x
theorem no_plan {c : Roads} (hr : isRoadsB c = true) (hl : c.bears < maxL c.loads) {P : List (List Int)} (hs : StopsOk c P) : isPlanB c P = false := by
  have hB := roadsB_of hr
  cases hp : isPlanB c P with
  | false => rfl
  | true =>
    exfalso
    have hall := plan_all hs hp
    have hn1 := hB.n1
    obtain ⟨i, hi, he⟩ := List.mem_iff_getElem.1 (maxL_mem (l := c.loads) (fun e => by rw [e] at hn1; simp at hn1))
    obtain ⟨j, hj⟩ := hall ((i : Int) + 1) (by omega) (by omega)
    have hjl : j < P.length := by
      apply Classical.byContradiction
      intro h
      rw [List.getD_eq_getElem?_getD, List.getElem?_eq_none (by omega)] at hj
      simp at hj
    rw [List.getD_eq_getElem?_getD, List.getElem?_eq_getElem hjl] at hj
    simp only [Option.getD_some] at hj
    have h1 := load_ge hB hj
    have h2 : c.loads.getD ((i : Int) + 1 - 1).toNat 0 = c.loads[i] := by
      rw [show ((i : Int) + 1 - 1).toNat = i by omega, List.getD_eq_getElem?_getD, List.getElem?_eq_getElem hi]; rfl
    rw [h2, he] at h1
    unfold isPlanB at hp
    rw [Bool.and_eq_true, Bool.and_eq_true, List.all_eq_true] at hp
    have h3 := hp.1.1 _ (List.getElem_mem hjl)
    rw [Bool.and_eq_true, decide_eq_true_eq] at h3
    omega
theorem flat_ge : ∀ {P : List (List Int)}, (∀ l, l ∈ P → l ≠ []) → P.length ≤ P.flatten.length
  | [], _ => by simp
  | l :: P, h => by
    have h1 := List.length_pos_iff.2 (h l (by simp))
    have h2 := flat_ge (P := P) (fun k hk => h k (List.mem_cons_of_mem _ hk))
    simp only [List.length_cons, List.flatten_cons, List.length_append]
    omega
theorem flat_mem : ∀ {P : List (List Int)} {l : List Int}, l ∈ P → l.length ≤ P.flatten.length
  | [], l, h => by simp at h
  | k :: P, l, h => by
    simp only [List.flatten_cons, List.length_append]
    rcases List.mem_cons.1 h with rfl | h
    · omega
    · have := flat_mem h; omega
theorem plan_short {c : Roads} {P : List (List Int)} (hp : isPlanB c P = true) : P.length ≤ c.loads.length ∧ ∀ l, l ∈ P → l.length ≤ c.loads.length := by
  unfold isPlanB at hp
  rw [Bool.and_eq_true, Bool.and_eq_true, decide_eq_true_eq, decide_eq_true_eq, List.all_eq_true] at hp
  obtain ⟨⟨h1, _⟩, h3⟩ := hp
  rw [← h3]
  refine ⟨flat_ge (fun l hl e => ?_), fun l hl => flat_mem hl⟩
  have := h1 l hl
  rw [e] at this
  simp at this
end Go.Proofs.YtapkbonlijhmjaaGreatDoor
