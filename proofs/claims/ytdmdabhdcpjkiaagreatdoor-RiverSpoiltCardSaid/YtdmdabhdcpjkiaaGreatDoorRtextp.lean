/- The reference's reading in plain Lean: it finds the book of a text, and of nothing else. -/
import Derived.Test.YtdmdabhdcpjkiaaGreatDoorTextp
namespace Go.Proofs.YtdmdabhdcpjkiaaGreatDoor
open Go.RowKit
def zeroB : Book := ⟨0, []⟩
/-- The book that all lines but the last two tell. -/
def readB (s : List UInt8) : Book := if (splitL 10 s).length ≤ 2 then zeroB else ⟨(yearsOf s : Int), riversOf s ((splitL 10 s).length - 3)⟩
/-- What so many lines tell. -/
def upTo (s : List UInt8) : Nat → Book
 | 0 => zeroB
 | i + 1 => ⟨(yearsOf s : Int), riversOf s i⟩
/-- So many lines are as they ought to be. -/
def upOk (s : List UInt8) (i : Nat) : Prop := (0 < i → toldOk wBook 2 (lineAt s 0) = true) ∧ ∀ j, j + 1 < i → toldOk wRiver (2 * yearsOf s + 2) (lineAt s (j + 1)) = true
theorem upOk_zero (s : List UInt8) : upOk s 0 := ⟨fun h => absurd h (by omega), fun j h => absurd h (by omega)⟩
theorem upOk_one {s : List UInt8} (h : toldOk wBook 2 (lineAt s 0) = true) : upOk s 1 := ⟨fun _ => h, fun j h => absurd h (by omega)⟩
theorem upOk_succ {s : List UInt8} {i : Nat} (h : upOk s (i + 1)) (h2 : toldOk wRiver (2 * yearsOf s + 2) (lineAt s (i + 1)) = true) : upOk s (i + 2) :=
 ⟨fun _ => h.1 (by omega), fun j hj => by
  by_cases e : j = i
  ·rw [e]; exact h2
  ·exact h.2 j (by omega)⟩
theorem upTo_succ (s : List UInt8) (i : Nat) : upTo s (i + 2) = { upTo s (i + 1) with rivers := (upTo s (i + 1)).rivers ++ [tellR (toldN (lineAt s (i + 1))) (yearsOf s)] } := by
 show Book.mk _ _ = Book.mk _ _
 rw [riversOf_succ]; rfl
theorem upTo_end (s : List UInt8) : upTo s ((splitL 10 s).length - 2) = readB s := by
 unfold readB
 split
 ·rename_i h
  rw [show (splitL 10 s).length - 2 = 0 by omega]; rfl
 ·rename_i h
  rw [show (splitL 10 s).length - 2 = ((splitL 10 s).length - 3) + 1 by omega]; rfl
theorem upOk_textB {s : List UInt8} {i : Nat} (h : upOk s i) (hi : i ≤ 300) (hs : s.length ≤ 300) : TextB (upTo s i) ∧ TextN (upTo s i) := by
 cases i with
 | zero =>
  refine ⟨⟨by simp [upTo, zeroB], by simp [upTo, zeroB], fun r hr => absurd hr (by simp [upTo, zeroB]), fun r hr => absurd hr (by simp [upTo, zeroB]), fun l hl => ?_⟩, fun y hy => ?_, fun r hr => absurd hr (by simp [upTo, zeroB]), fun r hr => absurd hr (by simp [upTo, zeroB])⟩
  ·have := lineT_len (word := wBook) (ns := [0, 0]) (fun y hy => by simp at hy; omega)
   have h5 : wBook.length = 4 := rfl
   have h6 : l = lineT wBook [0, 0] := by simpa [linesT, upTo, zeroB] using hl
   simp only [List.length_cons, List.length_nil] at this
   rw [h6]; omega
  ·simp [upTo, zeroB] at hy; omega
 | succ i =>
  exact ⟨bookN_textB (h.1 (by omega)) (fun j hj => h.2 j (by omega)) (by omega) hs, bookN_small (h.1 (by omega)) (fun j hj => h.2 j (by omega)) (by omega)⟩
theorem pieces_300 {s : List UInt8} (hs : s.length ≤ 300) : (splitL 10 s).length - 2 ≤ 300 := by have := split_count 10 s; omega
theorem rread_textB {s : List UInt8} (h : upOk s ((splitL 10 s).length - 2)) (hs : s.length ≤ 300) : TextB (readB s) := by
 rw [← upTo_end]; exact (upOk_textB h (pieces_300 hs) hs).1
/-- What the reference reads is the book of a text just if it is written the same. -/
theorem rread_yes {s : List UInt8} (h : upOk s ((splitL 10 s).length - 2)) (hs : s.length ≤ 300) (he : textT (readB s) = s) : TextOf s (readB s) := by
 refine ⟨?_, he⟩
 rw [← upTo_end]; exact (upOk_textB h (pieces_300 hs) hs).2
theorem text_upOk {s : List UInt8} {b : Book} (h : TextOf s b) {i : Nat} (hi : i + 2 ≤ (splitL 10 s).length) : upOk s i := by
 have hl := text_lines h
 have hn := hl.n
 exact ⟨fun _ => hl.h0, fun j hj => hl.h2 j (by omega)⟩
theorem rread_no0 {s : List UInt8} (hL : 2 < (splitL 10 s).length) (h : toldOk wBook 2 (lineAt s 0) = false) : ¬ ∃ b, TextOf s b := fun ⟨b, hb⟩ => by
 have := (text_upOk hb (i := 1) (by omega)).1 (by omega)
 rw [h] at this; cases this
theorem rread_no1 {s : List UInt8} {i : Nat} (hL : i + 3 < (splitL 10 s).length) (h : toldOk wRiver (2 * yearsOf s + 2) (lineAt s (i + 1)) = false) : ¬ ∃ b, TextOf s b := fun ⟨b, hb⟩ => by
 have := (text_upOk hb (i := i + 2) (by omega)).2 i (by omega)
 rw [h] at this; cases this
theorem readB_text {s : List UInt8} {b : Book} (h : TextOf s b) : readB s = b := by
 have hl := text_len h
 have hm := many_text h
 unfold readB
 rw [if_neg (by omega), show (splitL 10 s).length - 3 = manyOf s by omega]
 exact book_text h
theorem rread_not {s : List UInt8} (hne : textT (readB s) ≠ s) : ¬ ∃ q, TextOf s q := fun ⟨q, hq⟩ => hne (by rw [readB_text hq]; exact hq.2)
end Go.Proofs.YtdmdabhdcpjkiaaGreatDoor
