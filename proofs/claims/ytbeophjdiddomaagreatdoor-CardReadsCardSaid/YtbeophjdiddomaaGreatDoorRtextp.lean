/- The reference's reading in plain Lean: a fold over the lines; it finds the round of a text, and of nothing else. -/
import Derived.Test.YtbeophjdiddomaaGreatDoorReadp
namespace Go.Proofs.YtbeophjdiddomaaGreatDoor
open Go.RowKit

def zeroR : Round := ⟨0, 0, 0, 0, 0, [], 0, 0⟩
/-- What one line changes. -/
def rstep (r : Round) (l : List UInt8) : Option Round :=
  if toldOk wRound 2 l = true then some { r with per := (toldN l).getD 0 0 }
  else if toldOk wWeigh 4 l = true then some { r with lo := (toldN l).getD 0 0, hi := (toldN l).getD 1 0, card := (toldN l).getD 2 0, slack := (toldN l).getD 3 0 }
  else if toldOk wHouse 6 l = true then some { r with houses := r.houses ++ [houseOf (toldN l)] }
  else if toldOk wAll 2 l = true then some { r with all := (toldN l).getD 0 0, off := (toldN l).getD 1 0 }
  else none
/-- What so many lines tell. -/
def rfold (s : List UInt8) : Nat → Option Round
  | 0 => some zeroR
  | i + 1 => (rfold s i).bind fun r => rstep r (lineAt s i)
def rread (s : List UInt8) : Option Round := rfold s ((splitL 10 s).length - 2)
theorem rfold_succ {s : List UInt8} {i : Nat} {r : Round} (h : rfold s i = some r) : rfold s (i + 1) = rstep r (lineAt s i) := by
  show (rfold s i).bind _ = _
  rw [h]; rfl
theorem rfold_none {s : List UInt8} {i : Nat} (h : rfold s i = none) : ∀ k, rfold s (i + k) = none
  | 0 => h
  | k + 1 => by
    show (rfold s (i + k)).bind _ = none
    rw [rfold_none h k]; rfl
theorem told_word_only {w : List UInt8} {m : Nat} {l : List UInt8} (h : toldOk w m l = true) {w' : List UInt8} (hw : w ≠ w') (m' : Nat) : toldOk w' m' l = false := by
  unfold toldOk at *
  simp only [Bool.and_eq_true, decide_eq_true_eq] at h
  have : decide ((splitL 32 l).headD [] = w') = false := by rw [h.1.2]; simpa using hw
  rw [this]; simp
theorem rfold_text {s : List UInt8} {r : Round} (h : TextOf s r) : rread s = some r := by
  obtain ⟨a0, a1⟩ := text_head h
  obtain ⟨b0, b1⟩ := text_scales h
  obtain ⟨c0, c1⟩ := text_foot h
  have e1 : rfold s 1 = some { zeroR with per := r.per } := by
    rw [rfold_succ (r := zeroR) rfl]; unfold rstep; rw [if_pos a0, a1]; rfl
  have e2 : rfold s 2 = some ⟨r.per, r.lo, r.hi, r.card, r.slack, [], 0, 0⟩ := by
    rw [rfold_succ e1]; unfold rstep
    rw [if_neg (by rw [told_word_only b0 (by decide)]; decide), if_pos b0, b1]; rfl
  have e3 : ∀ j, j ≤ r.houses.length → rfold s (j + 2) = some ⟨r.per, r.lo, r.hi, r.card, r.slack, r.houses.take j, 0, 0⟩ := by
    intro j
    induction j with
    | zero => intro _; simpa using e2
    | succ j ih =>
      intro hj
      obtain ⟨d0, d1⟩ := text_lot h (List.getElem?_eq_getElem (show j < r.houses.length by omega))
      rw [show j + 1 + 2 = (j + 2) + 1 by omega, rfold_succ (ih (by omega))]; unfold rstep
      rw [if_neg (by rw [told_word_only d0 (by decide)]; decide), if_neg (by rw [told_word_only d0 (by decide)]; decide), if_pos d0, d1, houseOf_nums, List.take_add_one, List.getElem?_eq_getElem (show j < r.houses.length by omega)]; rfl
  have e4 := e3 r.houses.length (Nat.le_refl _)
  rw [List.take_of_length_le (Nat.le_refl _)] at e4
  unfold rread
  rw [text_len h, show r.houses.length + 5 - 2 = (r.houses.length + 2) + 1 by omega, rfold_succ e4]; unfold rstep
  rw [if_neg (by rw [told_word_only c0 (by decide)]; decide), if_neg (by rw [told_word_only c0 (by decide)]; decide), if_neg (by rw [told_word_only c0 (by decide)]; decide), if_pos c0, c1]; rfl
theorem small_getD {l : List Int} (h : Small l) (k : Nat) : 0 ≤ l.getD k 0 ∧ l.getD k 0 ≤ 999999 := by
  rw [List.getD_eq_getElem?_getD]
  cases hk : l[k]? with
  | none => simp
  | some x => exact h x (List.mem_of_getElem? hk)
/-- All numbers of a round are small, but for how many houses there are. -/
structure NumsOk (r : Round) : Prop where
  n0 : 0 ≤ r.per ∧ r.per ≤ 999999
  n1 : 0 ≤ r.lo ∧ r.lo ≤ 999999
  n2 : 0 ≤ r.hi ∧ r.hi ≤ 999999
  n3 : 0 ≤ r.card ∧ r.card ≤ 999999
  n4 : 0 ≤ r.slack ∧ r.slack ≤ 999999
  n6 : 0 ≤ r.all ∧ r.all ≤ 999999
  n7 : 0 ≤ r.off ∧ r.off ≤ 999999
  hs : ∀ h, h ∈ r.houses → Small h.nums
theorem nums_step {r q : Round} {l : List UInt8} (h : NumsOk r) (hq : rstep r l = some q) : NumsOk q ∧ q.houses.length ≤ r.houses.length + 1 := by
  unfold rstep at hq
  split at hq
  · rename_i h0; have hs := (told_line h0).2.1
    cases hq
    exact ⟨⟨small_getD hs 0, h.n1, h.n2, h.n3, h.n4, h.n6, h.n7, h.hs⟩, Nat.le_succ _⟩
  · split at hq
    · rename_i h0; have hs := (told_line h0).2.1
      cases hq
      exact ⟨⟨h.n0, small_getD hs 0, small_getD hs 1, small_getD hs 2, small_getD hs 3, h.n6, h.n7, h.hs⟩, Nat.le_succ _⟩
    · split at hq
      · rename_i h0; have hs := (told_line h0).2.1
        cases hq
        refine ⟨⟨h.n0, h.n1, h.n2, h.n3, h.n4, h.n6, h.n7, fun x hx => ?_⟩, by simp⟩
        rcases List.mem_append.1 hx with hx | hx
        · exact h.hs x hx
        · rw [List.mem_singleton] at hx
          subst hx
          intro y hy
          simp only [House.nums, houseOf, List.mem_cons, List.mem_nil_iff, or_false] at hy
          rcases hy with rfl | rfl | rfl | rfl | rfl | rfl <;> exact small_getD hs _
      · split at hq
        · rename_i h0; have hs := (told_line h0).2.1
          cases hq
          exact ⟨⟨h.n0, h.n1, h.n2, h.n3, h.n4, small_getD hs 0, small_getD hs 1, h.hs⟩, Nat.le_succ _⟩
        · cases hq
theorem nums_fold {s : List UInt8} : ∀ {i : Nat} {r : Round}, rfold s i = some r → NumsOk r ∧ r.houses.length ≤ i
  | 0, r, h => by
    cases h
    exact ⟨⟨by decide, by decide, by decide, by decide, by decide, by decide, by decide, fun x hx => by cases hx⟩, Nat.le_refl _⟩
  | i + 1, r, h => by
    cases hq : rfold s i with
    | none => rw [rfold_none hq 1] at h; cases h
    | some q =>
      rw [rfold_succ hq] at h
      obtain ⟨h1, h2⟩ := nums_fold hq
      obtain ⟨h3, h4⟩ := nums_step h1 h
      exact ⟨h3, by omega⟩
theorem nums_text {r : Round} (h : NumsOk r) (hn : r.houses.length ≤ 999999) : TextN r where
  hd := fun y hy => by
    simp only [List.mem_cons, List.mem_nil_iff, or_false] at hy
    rcases hy with rfl | rfl
    · exact h.n0
    · exact ⟨by omega, by omega⟩
  sc := fun y hy => by
    simp only [List.mem_cons, List.mem_nil_iff, or_false] at hy
    rcases hy with rfl | rfl | rfl | rfl
    · exact h.n1
    · exact h.n2
    · exact h.n3
    · exact h.n4
  ft := fun y hy => by
    simp only [List.mem_cons, List.mem_nil_iff, or_false] at hy
    rcases hy with rfl | rfl
    · exact h.n6
    · exact h.n7
  lt := h.hs
theorem rread_nums {s : List UInt8} {r : Round} (hs : s.length ≤ 500) (h : rread s = some r) : TextN r ∧ r.houses.length ≤ 500 := by
  obtain ⟨h1, h2⟩ := nums_fold h
  have h3 := split_count 10 s
  exact ⟨nums_text h1 (by omega), by omega⟩
/-- What the reference reads is the round of a text just if it is written the same. -/
theorem rread_iff {s : List UInt8} {r : Round} (hs : s.length ≤ 500) (h : rread s = some r) : TextOf s r ↔ textT r = s :=
  ⟨fun k => k.2, fun k => ⟨(rread_nums hs h).1, k⟩⟩
theorem rread_no {s : List UInt8} (h : rread s = none) : ¬ ∃ r, TextOf s r := fun ⟨r, hr⟩ => by rw [rfold_text hr] at h; cases h
theorem rread_not {s : List UInt8} {r : Round} (h : rread s = some r) (hne : textT r ≠ s) : ¬ ∃ q, TextOf s q := fun ⟨q, hq⟩ => by
  rw [rfold_text hq] at h
  cases h
  exact hne hq.2
end Go.Proofs.YtbeophjdiddomaaGreatDoor
