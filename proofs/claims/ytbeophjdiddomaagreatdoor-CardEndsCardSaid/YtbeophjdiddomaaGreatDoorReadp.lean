/- What a text's lines tell, put together (plain). -/
import Derived.Test.YtbeophjdiddomaaGreatDoorTold
namespace Go.Proofs.YtbeophjdiddomaaGreatDoor
open Go.RowKit

theorem split_short (c : UInt8) : ∀ {s l : List UInt8}, l ∈ splitL c s → l.length ≤ s.length
  | [], l, h => by simp [splitL] at h; subst h; simp
  | b :: s, l, h => by
    by_cases hb : b = c
    · rw [splitL, if_pos hb, List.mem_cons] at h
      rcases h with rfl | h
      · simp
      · have := split_short c h; simp only [List.length_cons]; omega
    · rw [splitL, if_neg hb] at h
      cases hq : splitL c s with
      | nil => exact absurd hq (splitL_ne c s)
      | cons x t =>
        rw [hq] at h
        simp only [List.mem_cons] at h
        rcases h with rfl | h
        · have := split_short c (s := s) (l := x) (by rw [hq]; simp)
          simp only [List.length_cons]; omega
        · have := split_short c (s := s) (l := l) (by rw [hq]; simp [h])
          simp only [List.length_cons]; omega
theorem split_count (c : UInt8) : ∀ s : List UInt8, (splitL c s).length ≤ s.length + 1
  | [] => by simp [splitL]
  | b :: s => by
    have := split_count c s
    by_cases hb : b = c
    · rw [splitL, if_pos hb]; simp only [List.length_cons]; omega
    · rw [splitL, if_neg hb]
      cases hq : splitL c s with
      | nil => simp
      | cons x t => rw [hq] at this; simp only [List.length_cons] at this ⊢; omega
theorem lineAt_short (s : List UInt8) (i : Nat) : (lineAt s i).length ≤ s.length := by
  unfold lineAt
  rw [List.getD_eq_getElem?_getD]
  cases hq : (splitL 10 s)[i]? with
  | none => simp
  | some l => exact split_short 10 (List.mem_of_getElem? hq)
theorem lineAt_get {s : List UInt8} {i : Nat} (h : i < (splitL 10 s).length) : (splitL 10 s)[i]? = some (lineAt s i) := by
  unfold lineAt
  rw [List.getD_eq_getElem?_getD, List.getElem?_eq_getElem h]; rfl
def manyOf (s : List UInt8) : Nat := ((toldN (lineAt s 0)).getD 1 0).toNat
def housesOf (s : List UInt8) (j : Nat) : List House := (List.range j).map fun i => houseOf (toldN (lineAt s (i + 2)))
theorem housesOf_len (s : List UInt8) (j : Nat) : (housesOf s j).length = j := by simp [housesOf]
theorem housesOf_succ (s : List UInt8) (j : Nat) : housesOf s (j + 1) = housesOf s j ++ [houseOf (toldN (lineAt s (j + 2)))] := by unfold housesOf; rw [List.range_succ]; simp
def roundOf (s : List UInt8) : Round where
  per := (toldN (lineAt s 0)).getD 0 0
  lo := (toldN (lineAt s 1)).getD 0 0
  hi := (toldN (lineAt s 1)).getD 1 0
  card := (toldN (lineAt s 1)).getD 2 0
  slack := (toldN (lineAt s 1)).getD 3 0
  houses := housesOf s (manyOf s)
  all := (toldN (lineAt s (manyOf s + 2))).getD 0 0
  off := (toldN (lineAt s (manyOf s + 2))).getD 1 0
theorem many_text {s : List UInt8} {r : Round} (h : TextOf s r) : manyOf s = r.houses.length := by unfold manyOf; rw [(text_head h).2]; simp
theorem round_text {s : List UInt8} {r : Round} (h : TextOf s r) : roundOf s = r := by
  have hh : housesOf s (manyOf s) = r.houses := by
    rw [many_text h]
    refine List.ext_getElem (housesOf_len _ _) fun i hi hj => ?_
    have := (text_lot h (List.getElem?_eq_getElem hj)).2
    simp only [housesOf, List.getElem_map, List.getElem_range]
    rw [this, houseOf_nums]
  have h0 := (text_head h).2
  have h1 := (text_scales h).2
  have h2 := (text_foot h).2
  rw [← many_text h] at h2
  unfold roundOf
  rw [h0, h1, h2, hh]
  rfl
/-- A list of two, four, six. -/
theorem two_of {l : List Int} (h : l.length = 2) : ∃ a b, l = [a, b] := by
  match l, h with
  | [a, b], _ => exact ⟨a, b, rfl⟩
theorem four_of {l : List Int} (h : l.length = 4) : ∃ a b c d, l = [a, b, c, d] := by
  match l, h with
  | [a, b, c, d], _ => exact ⟨a, b, c, d, rfl⟩
theorem six_of {l : List Int} (h : l.length = 6) : ∃ a b c d e f, l = [a, b, c, d, e, f] := by
  match l, h with
  | [a, b, c, d, e, f], _ => exact ⟨a, b, c, d, e, f, rfl⟩
/-- All lines are as they ought to be. -/
structure LinesOk (s : List UInt8) : Prop where
  h0 : toldOk wRound 2 (lineAt s 0) = true
  h1 : toldOk wWeigh 4 (lineAt s 1) = true
  h2 : ∀ i, i < manyOf s → toldOk wHouse 6 (lineAt s (i + 2)) = true
  h3 : toldOk wAll 2 (lineAt s (manyOf s + 2)) = true
theorem round_small {s : List UInt8} (h : LinesOk s) : TextN (roundOf s) := by
  obtain ⟨l0, s0, _⟩ := told_line h.h0
  obtain ⟨l1, s1, _⟩ := told_line h.h1
  obtain ⟨l3, s3, _⟩ := told_line h.h3
  obtain ⟨a0, b0, e0⟩ := two_of l0
  obtain ⟨a1, b1, c1, d1, e1⟩ := four_of l1
  obtain ⟨a3, b3, e3⟩ := two_of l3
  rw [e0] at s0
  rw [e1] at s1
  rw [e3] at s3
  refine ⟨?_, ?_, ?_, ?_⟩
  · have : ((roundOf s).houses.length : Int) = b0 := by
      show ((housesOf s (manyOf s)).length : Int) = b0
      rw [housesOf_len]; unfold manyOf; rw [e0]
      have := s0 b0 (by simp)
      simp; omega
    rw [this]
    show Small [(toldN (lineAt s 0)).getD 0 0, b0]
    rw [e0]; exact s0
  · show Small [(toldN (lineAt s 1)).getD 0 0, (toldN (lineAt s 1)).getD 1 0, (toldN (lineAt s 1)).getD 2 0, (toldN (lineAt s 1)).getD 3 0]
    rw [e1]; exact s1
  · show Small [(toldN (lineAt s (manyOf s + 2))).getD 0 0, (toldN (lineAt s (manyOf s + 2))).getD 1 0]
    rw [e3]; exact s3
  · intro x hx
    obtain ⟨i, hi, rfl⟩ := List.mem_map.1 (show x ∈ housesOf s (manyOf s) from hx)
    obtain ⟨l2, s2, _⟩ := told_line (h.h2 i (List.mem_range.1 hi))
    obtain ⟨a, b, c, d, e, f, e2⟩ := six_of l2
    rw [e2] at s2 ⊢
    exact s2
/-- A round whose houses lie in a block that was not there. -/
def RoundNew (w w' : World) (v : Value) (r : Round) : Prop := ∃ hv, v = .agg (r.cells hv).toArray ∧ HousesAt w' hv r.houses ∧ ∀ a n c, hv = .slice (some a) n c → w.heap.size ≤ a.block
/-- What read answers. -/
def ReadPost (s : List UInt8) (w : World) (e : Ending) (w' : World) : Prop :=
  (∃ v, e = .returned v ∧ TextOf s (roundOf s) ∧ RoundNew w w' v (roundOf s) ∧ Ext w w') ∨ ((¬ ∃ r, TextOf s r) ∧ StrangeP w e w')
theorem ints_at {W : World} {v : Value} {xs : List Int} (h : IntsAt W v xs) (h0 : 0 < xs.length) : ∃ b o c, v = .slice (some ⟨b, o, none⟩) xs.length c ∧ ∀ i x, xs[i]? = some x → W.cell? ⟨b, o + i, none⟩ = some (.int .i64 x) := by
  obtain ⟨a, c, rfl, h1, h2, h3⟩ := h.open
  obtain ⟨b, o, x0, rfl, _, _⟩ := h3 0 h0
  refine ⟨b, o, c, rfl, fun i x hx => ?_⟩
  obtain ⟨b', o', x', e, hx', hc⟩ := h3 i (List.getElem?_eq_some_iff.1 hx).1
  cases e
  rw [hx'.out] at hx
  cases hx
  exact hc
end Go.Proofs.YtbeophjdiddomaaGreatDoor
