/- What the reference reads, in plain Lean: line by line, then written anew. -/
import Derived.Test.YtoohhefegfpipaaGreatDoorOtp
namespace Go.Proofs.YtoohhefegfpipaaGreatDoor
def headW (l : List UInt8) : List UInt8 := (splitL 32 l).headD []
def allNum (l : List UInt8) : Bool := ((splitL 32 l).drop 1).all numOk
def startB : Book := { goods := [], editions := 0, moves := 0, entries := [] }
def putB (b : Book) (l : List UInt8) : Option Book :=
 if headW l = wBook then (if (toldN l).length = 2 then some { b with editions := (toldN l).getD 0 0, moves := (toldN l).getD 1 0 } else none)
 else if headW l = wGood then (if (toldN l).length = 1 then some { b with goods := b.goods ++ [(toldN l).getD 0 0] } else none)
 else if headW l = wEntry then (if (toldN l).length = 3 then some { b with entries := b.entries ++ [((toldN l).getD 0 0, (toldN l).getD 1 0, (toldN l).getD 2 0)] } else none)
 else none
def rstepB (b : Book) (l : List UInt8) : Option Book := if allNum l = true then putB b l else none
def rreadB (ls : List (List UInt8)) : Nat → Option Book
 | 0 => some startB
 | k + 1 => match rreadB ls k with | none => none | some b => rstepB b (ls.getD k [])
theorem allNum_small {l : List UInt8} (h : allNum l = true) : Small (toldN l) := fun y hy => by
 unfold allNum at h
 rw [List.all_eq_true] at h
 unfold toldN at hy
 obtain ⟨x, hx, rfl⟩ := List.mem_map.1 hy
 have := num_ok (h x hx)
 exact ⟨this.1, this.2.1⟩
theorem toldOk_parts {word : List UInt8} {many : Nat} {l : List UInt8} (h : toldOk word many l = true) : allNum l = true ∧ headW l = word ∧ (toldN l).length = many := by
 have h2 := (told_line h).1
 unfold toldOk at h
 simp only [Bool.and_eq_true, decide_eq_true_eq] at h
 exact ⟨h.2, h.1.2, h2⟩
theorem start_small : TextN startB := ⟨fun y hy => by simp only [startB, List.mem_cons, List.mem_nil_iff, or_false] at hy; omega, fun g hg => by simp [startB] at hg, fun x hx => by simp [startB] at hx⟩
theorem rstep_small {b b' : Book} {l : List UInt8} (h : TextN b) (hs : rstepB b l = some b') : TextN b' := by
 unfold rstepB at hs
 split at hs
 ·have hS := allNum_small (by assumption)
  unfold putB at hs
  split at hs
  ·split at hs
   ·cases hs
    refine ⟨fun y hy => ?_, h.gd, h.en⟩
    simp only [List.mem_cons, List.mem_nil_iff, or_false] at hy
    rcases hy with rfl | rfl <;> exact getD_small hS _
   ·cases hs
  split at hs
  ·split at hs
   ·cases hs
    refine ⟨h.hd, fun g hg => ?_, h.en⟩
    rcases List.mem_append.1 hg with hg | hg
    ·exact h.gd g hg
    ·rw [List.mem_singleton.1 hg]; exact getD_small hS _
   ·cases hs
  split at hs
  ·split at hs
   ·cases hs
    refine ⟨h.hd, h.gd, fun x hx => ?_⟩
    rcases List.mem_append.1 hx with hx | hx
    ·exact h.en x hx
    ·rw [List.mem_singleton.1 hx]
     intro y hy
     simp only [entN, List.mem_cons, List.mem_nil_iff, or_false] at hy
     rcases hy with rfl | rfl | rfl <;> exact getD_small hS _
   ·cases hs
  cases hs
 ·cases hs
theorem rread_succ {ls : List (List UInt8)} {k : Nat} {b : Book} (h : rreadB ls k = some b) : rreadB ls (k + 1) = rstepB b (ls.getD k []) := by
 show (match rreadB ls k with | none => none | some b => rstepB b (ls.getD k [])) = _
 rw [h]
theorem rread_small {ls : List (List UInt8)} : ∀ {k : Nat} {b : Book}, rreadB ls k = some b → TextN b
 | 0, b, h => by cases h; exact start_small
 | k + 1, b, h => by
  cases hq : rreadB ls k with
  | none => have h2 : (match rreadB ls k with | none => none | some b => rstepB b (ls.getD k [])) = some b := h; rw [hq] at h2; cases h2
  | some q => rw [rread_succ hq] at h; exact rstep_small (rread_small hq) h
theorem rread_none {ls : List (List UInt8)} {k : Nat} (h : rreadB ls k = none) : ∀ d : Nat, rreadB ls (k + d) = none
 | 0 => h
 | d + 1 => by
  show (match rreadB ls (k + d) with | none => none | some b => rstepB b (ls.getD (k + d) [])) = _
  rw [rread_none h d]
theorem put_len {b b' : Book} {l : List UInt8} (h : rstepB b l = some b') : b'.goods.length + b'.entries.length ≤ b.goods.length + b.entries.length + 1 := by
 unfold rstepB at h
 split at h
 ·unfold putB at h
  split at h
  ·split at h
   ·cases h; simp
   ·cases h
  split at h
  ·split at h
   ·cases h; simp; omega
   ·cases h
  split at h
  ·split at h
   ·cases h; simp; omega
   ·cases h
  cases h
 ·cases h
theorem rread_len {ls : List (List UInt8)} : ∀ {k : Nat} {b : Book}, rreadB ls k = some b → b.goods.length + b.entries.length ≤ k
 | 0, b, h => by cases h; simp [startB]
 | k + 1, b, h => by
  cases hq : rreadB ls k with
  | none => have h2 : (match rreadB ls k with | none => none | some b => rstepB b (ls.getD k [])) = some b := h; rw [hq] at h2; cases h2
  | some q => rw [rread_succ hq] at h; have := rread_len hq; have := put_len h; omega
theorem read_book {l : List UInt8} {b : Book} (h : toldOk wBook 2 l = true) : rstepB b l = some { b with editions := (toldN l).getD 0 0, moves := (toldN l).getD 1 0 } := by
 obtain ⟨h1, h2, h3⟩ := toldOk_parts h
 unfold rstepB putB
 rw [if_pos h1, if_pos h2, if_pos h3]
theorem read_good {l : List UInt8} {b : Book} (h : toldOk wGood 1 l = true) : rstepB b l = some { b with goods := b.goods ++ [(toldN l).getD 0 0] } := by
 obtain ⟨h1, h2, h3⟩ := toldOk_parts h
 unfold rstepB putB
 rw [if_pos h1, h2, if_neg (by decide), if_pos rfl, if_pos h3]
theorem read_entry {l : List UInt8} {b : Book} (h : toldOk wEntry 3 l = true) : rstepB b l = some { b with entries := b.entries ++ [((toldN l).getD 0 0, (toldN l).getD 1 0, (toldN l).getD 2 0)] } := by
 obtain ⟨h1, h2, h3⟩ := toldOk_parts h
 unfold rstepB putB
 rw [if_pos h1, h2, if_neg (by decide), if_neg (by decide), if_pos rfl, if_pos h3]
theorem rread_goods {s : List UInt8} {b : Book} (h : TextOf s b) : ∀ k, k ≤ b.goods.length → rreadB (splitL 10 s) (k + 1) = some { goods := b.goods.take k, editions := b.editions, moves := b.moves, entries := [] }
 | 0, _ => by
  obtain ⟨h1, h2⟩ := text_head h
  have h0 : rreadB (splitL 10 s) 0 = some startB := rfl
  rw [rread_succ h0, show (splitL 10 s).getD 0 [] = lineAt s 0 from rfl, read_book h1, h2]; rfl
 | k + 1, hk => by
  have ih := rread_goods h k (by omega)
  have hx : b.goods[k]? = some b.goods[k] := List.getElem?_eq_getElem (by omega)
  have hl := text_good h hx
  obtain ⟨h1, h2⟩ := line_told (word := wGood) (by decide) (small_one (h.1.gd _ (List.mem_of_getElem? hx)))
  rw [rread_succ ih, show (splitL 10 s).getD (k + 1) [] = lineAt s (k + 1) from rfl, hl, read_good h1, h2, List.take_add_one, hx]; rfl
theorem rread_entries {s : List UInt8} {b : Book} (h : TextOf s b) : ∀ k, k ≤ b.entries.length → rreadB (splitL 10 s) (b.goods.length + k + 1) = some { goods := b.goods, editions := b.editions, moves := b.moves, entries := b.entries.take k }
 | 0, _ => by
  have := rread_goods h b.goods.length (Nat.le_refl _)
  rw [List.take_length] at this
  exact this
 | k + 1, hk => by
  have ih := rread_entries h k (by omega)
  have hx : b.entries[k]? = some b.entries[k] := List.getElem?_eq_getElem (by omega)
  have hl := text_entry h hx
  obtain ⟨h1, h2⟩ := line_told (word := wEntry) (by decide) (h.1.en _ (List.mem_of_getElem? hx))
  rw [show b.goods.length + (k + 1) + 1 = b.goods.length + k + 1 + 1 by omega, rread_succ ih, show (splitL 10 s).getD (b.goods.length + k + 1) [] = lineAt s (b.goods.length + k + 1) from rfl, hl, read_entry h1, h2, List.take_add_one, hx]; rfl
/-- What the reference answers: the book, if it is written the same. -/
theorem rread_yes {s : List UInt8} (h : isTextB s = true) : rreadB (splitL 10 s) ((splitL 10 s).length - 2) = some (bookOf s) := by
 have h1 := isText_iff.1 h
 have h2 := rread_entries h1 (bookOf s).entries.length (Nat.le_refl _)
 rw [List.take_length] at h2
 rw [text_len h1]
 exact h2
theorem rread_no {s : List UInt8} (h : isTextB s = false) {m : Nat} {b : Book} (hb : rreadB (splitL 10 s) m = some b) : textT b ≠ s := fun e => by
 rw [(isText_of ⟨rread_small hb, e⟩).1] at h; cases h
end Go.Proofs.YtoohhefegfpipaaGreatDoor
