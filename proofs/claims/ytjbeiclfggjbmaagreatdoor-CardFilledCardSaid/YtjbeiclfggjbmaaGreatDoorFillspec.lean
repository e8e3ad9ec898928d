/- Fillings, in plain Lean: what is found is a filling, and the best and first one. -/
import Derived.Test.YtjbeiclfggjbmaaGreatDoorFilld
namespace Go.Proofs.YtjbeiclfggjbmaaGreatDoor

/-- A list is a filling of what is left. -/
def fillsP : List Kind → Int → List Int → Prop
  | [], left, [] => left = 0
  | k :: ks, left, n :: l => 0 ≤ n ∧ n ≤ k.many ∧ fillsP ks (left - n * k.holds) l
  | _, _, _ => False
/-- A list comes before another one. -/
def befB : List Int → List Int → Bool
  | x :: a, y :: b => if x = y then befB a b else decide (x < y)
  | a, b => decide (a.length < b.length)
theorem befB_self : ∀ a, befB a a = false
  | [] => by simp [befB]
  | x :: a => by simp [befB, befB_self a]
theorem befB_app : ∀ (now a b : List Int), befB (now ++ a) (now ++ b) = befB a b
  | [], _, _ => rfl
  | x :: now, a, b => by simp [befB, befB_app now a b]
theorem befB_gt {n m : Int} (h : m < n) (now a b : List Int) : befB (now ++ n :: a) (now ++ m :: b) = false := by
  rw [befB_app]
  unfold befB
  rw [if_neg (by omega)]
  simp; omega
theorem kind_ok {k : Kind} (h : badKind k = false) : (1 ≤ k.holds ∧ k.holds ≤ 36) ∧ (0 ≤ k.many ∧ k.many ≤ 20) := by
  simp only [badKind, Bool.or_eq_false_iff, Bool.not_eq_false', inB_iff] at h
  exact h
theorem fillsP_nonneg : ∀ {ks : List Kind} {left : Int} {l : List Int}, (∀ k, k ∈ ks → badKind k = false) → fillsP ks left l → 0 ≤ left
  | [], left, [], _, h => by unfold fillsP at h; omega
  | [], _, _ :: _, _, h => by unfold fillsP at h; exact h.elim
  | _ :: _, _, [], _, h => by unfold fillsP at h; exact h.elim
  | k :: ks, left, n :: l, hk, h => by
    unfold fillsP at h
    obtain ⟨h1, h2, h3⟩ := h
    have h4 := fillsP_nonneg (fun k hk' => hk k (List.mem_cons_of_mem _ hk')) h3
    have h5 := kind_ok (hk k (List.mem_cons_self ..))
    have := Int.mul_nonneg h1 (by omega : 0 ≤ k.holds)
    omega
theorem fewerB_trans {c d : Int} {acc : Found} (h1 : c < d) (h2 : fewerB d acc = true) : fewerB c acc = true := by
  cases acc with
  | none => rfl
  | some p => simp [fewerB] at h2 ⊢; omega
/-- What is found was found before, or is a filling with fewer cards. -/
theorem fillGo_sound : ∀ (ks : List Kind) (now : List Int) (left cards : Int) (acc : Found), (∀ k, k ∈ ks → badKind k = false) → 0 ≤ left →
    fillGo ks now left cards acc = acc ∨ ∃ l, fillsP ks left l ∧ fillGo ks now left cards acc = some (now ++ l, cards + l.sum) ∧ fewerB (cards + l.sum) acc = true
  | [], now, left, cards, acc, _, _ => by
    unfold fillGo
    by_cases h : left = 0 ∧ fewerB cards acc = true
    · rw [if_pos h]
      exact .inr ⟨[], by unfold fillsP; exact h.1, by simp, by simpa using h.2⟩
    · rw [if_neg h]; exact .inl rfl
  | k :: ks, now, left, cards, acc, hk, h0 => by
    obtain ⟨⟨hh1, hh2⟩, hm1, hm2⟩ := kind_ok (hk k (List.mem_cons_self ..))
    have key : ∀ j, j ≤ cntOf k left → fillUpto k ks now left cards acc j = acc ∨ ∃ n' l, n' < j ∧ fillsP (k :: ks) left ((n' : Nat) :: l) ∧ fillUpto k ks now left cards acc j = some (now ++ (n' : Int) :: l, cards + (n' + l.sum)) ∧ fewerB (cards + (n' + l.sum)) acc = true := by
      intro j
      induction j with
      | zero => intro _; exact .inl rfl
      | succ j ih =>
        intro hj
        obtain ⟨u1, u2⟩ := (cntOf_lt (k := k) (left := left) (j := j) hh1 hm1 h0).1 (by omega)
        rw [fillUpto_succ]
        have hn : fillsP (k :: ks) left ((j : Int) :: []) ∨ True := .inr trivial
        rcases fillGo_sound ks (now ++ [(j : Int)]) (left - j * k.holds) (cards + j) (fillUpto k ks now left cards acc j) (fun k hk' => hk k (List.mem_cons_of_mem _ hk')) (by omega) with h | ⟨l, h1, h2, h3⟩
        · rw [h]
          rcases ih (by omega) with h | ⟨n', l, q1, q2, q3, q4⟩
          · exact .inl h
          · exact .inr ⟨n', l, by omega, q2, q3, q4⟩
        · refine .inr ⟨j, l, by omega, ?_, ?_, ?_⟩
          · unfold fillsP; exact ⟨by omega, u1, h1⟩
          · rw [h2]; simp [Int.add_assoc]
          · rw [← Int.add_assoc]
            rcases ih (by omega) with h | ⟨n', l', q1, q2, q3, q4⟩
            · rwa [h] at h3
            · rw [q3] at h3
              exact fewerB_trans (by simpa [fewerB] using h3) q4
    rw [← fillUpto_all]
    rcases key _ (Nat.le_refl _) with h | ⟨n', l, q1, q2, q3, q4⟩
    · exact .inl h
    · exact .inr ⟨(n' : Int) :: l, q2, by rw [q3]; simp, by simpa using q4⟩
/-- No filling has fewer cards, nor as many and comes before. -/
theorem fillGo_best : ∀ (ks : List Kind) (now : List Int) (left cards : Int) (acc : Found), (∀ k, k ∈ ks → badKind k = false) → 0 ≤ left →
    (∀ q, acc = some q → ∀ l, fillsP ks left l → befB (now ++ l) q.1 = false) →
    ∀ l, fillsP ks left l → ∃ p, fillGo ks now left cards acc = some p ∧ (p.2 < cards + l.sum ∨ p.2 = cards + l.sum ∧ befB (now ++ l) p.1 = false)
  | [], now, left, cards, acc, _, _, ha, l, hl => by
    cases l with
    | cons n l => unfold fillsP at hl; exact hl.elim
    | nil =>
      have hl' := hl
      unfold fillsP at hl
      unfold fillGo
      by_cases h : fewerB cards acc = true
      · rw [if_pos ⟨hl, h⟩]
        exact ⟨_, rfl, .inr ⟨by simp, by simp [befB_self]⟩⟩
      · rw [if_neg (fun q => h q.2)]
        cases acc with
        | none => exact absurd rfl h
        | some q =>
          have h2 : ¬ cards < q.2 := by simpa [fewerB] using h
          refine ⟨q, rfl, ?_⟩
          by_cases h3 : q.2 < cards
          · left; simpa using h3
          · right; exact ⟨by simp; omega, ha q rfl _ hl'⟩
  | k :: ks, now, left, cards, acc, hk, h0, ha, l, hl => by
    obtain ⟨⟨hh1, hh2⟩, hm1, hm2⟩ := kind_ok (hk k (List.mem_cons_self ..))
    have hks : ∀ k, k ∈ ks → badKind k = false := fun k hk' => hk k (List.mem_cons_of_mem _ hk')
    cases l with
    | nil => unfold fillsP at hl; exact hl.elim
    | cons n l =>
      have hP : ∀ (n : Int) (l : List Int), fillsP (k :: ks) left (n :: l) ↔ 0 ≤ n ∧ n ≤ k.many ∧ fillsP ks (left - n * k.holds) l := fun n l => by
        constructor
        · intro h; unfold fillsP at h; exact h
        · intro h; unfold fillsP; exact h
      have key : ∀ j, j ≤ cntOf k left →
          (∀ (n' : Nat) l', n' < j → fillsP (k :: ks) left ((n' : Int) :: l') → ∃ p, fillUpto k ks now left cards acc j = some p ∧ (p.2 < cards + ((n' : Int) + l'.sum) ∨ p.2 = cards + ((n' : Int) + l'.sum) ∧ befB (now ++ (n' : Int) :: l') p.1 = false)) ∧
          (∀ q, fillUpto k ks now left cards acc j = some q → ∀ (n' : Nat) l', j ≤ n' → fillsP (k :: ks) left ((n' : Int) :: l') → befB (now ++ (n' : Int) :: l') q.1 = false) := by
        intro j
        induction j with
        | zero =>
          intro _
          exact ⟨fun n' _ h => absurd h (Nat.not_lt_zero _), fun q hq n' l' _ hl' => ha q hq _ hl'⟩
        | succ j ih =>
          intro hj
          obtain ⟨i1, i2⟩ := ih (by omega)
          obtain ⟨u1, u2⟩ := (cntOf_lt (k := k) (left := left) (j := j) hh1 hm1 h0).1 (by omega)
          have hs := fillGo_sound ks (now ++ [(j : Int)]) (left - j * k.holds) (cards + j) (fillUpto k ks now left cards acc j) hks (by omega)
          rw [fillUpto_succ]
          constructor
          · intro n' l' hn' hl'
            by_cases he : n' = j
            · subst he
              obtain ⟨q1, q2, q3⟩ := (hP _ _).1 hl'
              obtain ⟨p, hp, hp2⟩ := fillGo_best ks (now ++ [(n' : Int)]) (left - n' * k.holds) (cards + n') (fillUpto k ks now left cards acc n') hks (by omega)
                (fun q hq l hl => by
                  have := i2 q hq n' l (Nat.le_refl _) ((hP _ _).2 ⟨q1, q2, hl⟩)
                  simpa using this) l' q3
              refine ⟨p, hp, ?_⟩
              rw [Int.add_assoc] at hp2
              simpa using hp2
            · obtain ⟨p0, h1, h2⟩ := i1 n' l' (by omega) hl'
              rcases hs with h | ⟨l2, g1, g2, g3⟩
              · rw [h]; exact ⟨p0, h1, h2⟩
              · rw [g2]
                refine ⟨_, rfl, .inl ?_⟩
                rw [h1] at g3
                have g3' : cards + (j : Int) + l2.sum < p0.2 := by simpa [fewerB] using g3
                show cards + (j : Int) + l2.sum < _
                rcases h2 with h2 | h2
                · omega
                · omega
          · intro q hq n' l' hn' hl'
            rcases hs with h | ⟨l2, g1, g2, g3⟩
            · rw [h] at hq; exact i2 q hq n' l' (by omega) hl'
            · rw [g2] at hq
              cases hq
              show befB (now ++ (n' : Int) :: l') ((now ++ [(j : Int)]) ++ l2) = false
              rw [List.append_assoc]
              exact befB_gt (by omega) now l' l2
      obtain ⟨q1, q2, q3⟩ := (hP n l).1 hl
      obtain ⟨m, rfl⟩ := Int.eq_ofNat_of_zero_le q1
      have q4 := fillsP_nonneg hks q3
      have hm : m < cntOf k left := (cntOf_lt (k := k) (left := left) (j := m) hh1 hm1 h0).2 ⟨q2, by omega⟩
      obtain ⟨p, h1, h2⟩ := (key _ (Nat.le_refl _)).1 m l hm hl
      rw [← fillUpto_all]
      exact ⟨p, h1, by simpa using h2⟩
theorem fillOf_best {ks : List Kind} {buttons : Int} (hk : ∀ k, k ∈ ks → badKind k = false) (h0 : 0 ≤ buttons) {l : List Int} (hl : fillsP ks buttons l) : ∃ p, fillOf ks buttons = some p ∧ (p.2 < l.sum ∨ p.2 = l.sum ∧ befB l p.1 = false) := by
  obtain ⟨p, h1, h2⟩ := fillGo_best ks [] buttons 0 none hk h0 (fun q hq => by cases hq) l hl
  exact ⟨p, h1, by simpa using h2⟩
theorem fillOf_sound {ks : List Kind} {buttons : Int} (hk : ∀ k, k ∈ ks → badKind k = false) (h0 : 0 ≤ buttons) {p : List Int × Int} (h : fillOf ks buttons = some p) : fillsP ks buttons p.1 ∧ p.2 = p.1.sum := by
  rcases fillGo_sound ks [] buttons 0 none hk h0 with h1 | ⟨l, h1, h2, _⟩
  · unfold fillOf at h; rw [h1] at h; cases h
  · unfold fillOf at h; rw [h2] at h; cases h
    exact ⟨h1, by simp⟩
end Go.Proofs.YtjbeiclfggjbmaaGreatDoor
