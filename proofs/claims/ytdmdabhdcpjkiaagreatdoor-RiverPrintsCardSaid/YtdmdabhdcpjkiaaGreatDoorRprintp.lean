/- The reference's printing in plain Lean: decimal digits from the end, lines one below another, splitting byte by byte. -/
import Derived.Test.YtdmdabhdcpjkiaaGreatDoorTextp
namespace Go.Proofs.YtdmdabhdcpjkiaaGreatDoor
open Go.RowKit

/-- The digits ahead of the last one. -/
def decHead (m : Nat) : List UInt8 := if m < 10 then [] else Lib.decDigits (m / 10)
def digitB (m : Nat) : UInt8 := UInt8.ofNat (48 + m % 10)
theorem digitB_nat (m : Nat) : (digitB m).toNat = 48 + m % 10 := by unfold digitB; rw [UInt8.toNat_ofNat']; omega
theorem dec_last (m : Nat) : Lib.decDigits m = decHead m ++ [digitB m] := by
 rw [Lib.decDigits]
 unfold decHead digitB
 by_cases h : m < 10
 ·rw [dif_pos h, if_pos h, Nat.mod_eq_of_lt h]; rfl
 ·rw [dif_neg h, if_neg h]
theorem dec_step {m : Nat} (h : ¬ m < 10) (s : List UInt8) : decHead m ++ s = decHead (m / 10) ++ (digitB (m / 10) :: s) := by
 have : decHead m = Lib.decDigits (m / 10) := by unfold decHead; rw [if_neg h]
 rw [this, dec_last (m / 10), List.append_assoc]; rfl
theorem dec_end {m : Nat} (h : m < 10) (s : List UInt8) : decHead m ++ s = s := by unfold decHead; rw [if_pos h]; rfl

/-- Lines, each with its end. -/
def downL (ls : List (List UInt8)) : List UInt8 := ls.flatMap fun l => l ++ [10]
theorem downL_succ {ls : List (List UInt8)} {i : Nat} {l : List UInt8} (h : ls[i]? = some l) : downL (ls.take (i + 1)) = downL (ls.take i) ++ (l ++ [10]) := by
 unfold downL; rw [List.take_add_one, h]; simp
theorem join_down : ∀ {ls : List (List UInt8)}, ls ≠ [] → Lib.join ls [10] ++ [10] = downL ls
 | [], h => absurd rfl h
 | [l], _ => by simp [Lib.join, downL]
 | l :: m :: t, _ => by
  have ih := join_down (ls := m :: t) (by simp)
  have e : Lib.join (l :: m :: t) [10] = l ++ (10 :: Lib.join (m :: t) [10]) := by simp [Lib.join]
  rw [e, List.append_assoc, List.cons_append, ih]
  simp [downL]
theorem text_down (r : Book) : textT r = downL (linesT r) ++ ([101, 110, 100, 32] ++ (Lib.itoa (checkT (linesT r) / 100) ++ (Lib.itoa (checkT (linesT r) / 10 % 10) ++ (Lib.itoa (checkT (linesT r) % 10) ++ [10])))) := by
 rw [← join_down (ls := linesT r) (by unfold linesT; simp)]
 unfold textT endT
 simp

/-- How splitting goes on at one byte more. -/
def SplitAt (c : UInt8) (s : List UInt8) (i : Nat) (out : List (List UInt8)) (from_ : Nat) : Prop := from_ ≤ i ∧ splitL c (s.take i) = out ++ [(s.take i).drop from_]
theorem splitAt_zero (c : UInt8) (s : List UInt8) : SplitAt c s 0 [] 0 := ⟨Nat.le_refl _, by simp [splitL]⟩
theorem splitAt_hit {c : UInt8} {s : List UInt8} {i : Nat} {out : List (List UInt8)} {f : Nat} (h : SplitAt c s i out f) (hi : s[i]? = some c) : SplitAt c s (i + 1) (out ++ [(s.take i).drop f]) (i + 1) := by
 obtain ⟨h1, h2⟩ := h
 refine ⟨Nat.le_refl _, ?_⟩
 rw [List.take_add_one, hi, Option.toList_some, splitL_snoc, if_pos rfl, h2]
 have hl := (List.getElem?_eq_some_iff.1 hi).1
 have : (s.take i ++ [c]).drop (i + 1) = [] := by rw [List.drop_eq_nil_iff]; simp; omega
 rw [this]
theorem splitAt_miss {c b : UInt8} {s : List UInt8} {i : Nat} {out : List (List UInt8)} {f : Nat} (h : SplitAt c s i out f) (hi : s[i]? = some b) (hb : b ≠ c) : SplitAt c s (i + 1) out f := by
 obtain ⟨h1, h2⟩ := h
 refine ⟨by omega, ?_⟩
 have hl := (List.getElem?_eq_some_iff.1 hi).1
 rw [List.take_add_one, hi, Option.toList_some, splitL_snoc, if_neg hb, h2, List.drop_append_of_le_length (by simp; omega)]
 simp
theorem splitAt_end {c : UInt8} {s : List UInt8} {out : List (List UInt8)} {f : Nat} (h : SplitAt c s s.length out f) : splitL c s = out ++ [s.drop f] := by
 have := h.2
 rwa [List.take_of_length_le (Nat.le_refl _)] at this
theorem splitAt_len {c : UInt8} {s : List UInt8} {i : Nat} {out : List (List UInt8)} {f : Nat} (h : SplitAt c s i out f) (_hi : i ≤ s.length) : out.length ≤ i := by
 have h1 := split_count c (s.take i)
 rw [h.2] at h1
 simp at h1
 omega
end Go.Proofs.YtdmdabhdcpjkiaaGreatDoor
