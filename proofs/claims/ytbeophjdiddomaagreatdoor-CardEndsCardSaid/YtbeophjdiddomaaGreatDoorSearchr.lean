/- What search collects: rows of numbers, each in a block of its own. -/
import Derived.Test.YtbeophjdiddomaaGreatDoorOthers
import Derived.Test.YtbeophjdiddomaaGreatDoorWaysb
import Derived.Deep.RegionHeld3
namespace Go.Proofs.YtbeophjdiddomaaGreatDoor
open Go.RowKit

def Dis (u v : Value) : Prop := ∀ g, u.ownBlock = some g → v.ownBlock ≠ some g
structure Pool (B : Nat) (vals : List Value) (lss : List (List Int)) (W : World) : Prop where
  len : vals.length = lss.length
  own : ∀ (i : Nat) (v : Value) (xs : List Int), vals[i]? = some v → lss[i]? = some xs → W.ownsRow B 3 1 v xs.length (xs.map (.int .i64))
  dis : ∀ (i j : Nat) (u v : Value), i ≠ j → vals[i]? = some u → vals[j]? = some v → Dis u v
theorem Pool.at {B : Nat} {vals : List Value} {lss : List (List Int)} {W : World} (h : Pool B vals lss W) {i : Nat} {v : Value} (hv : vals[i]? = some v) : ∃ xs, lss[i]? = some xs := by
  have := (List.getElem?_eq_some_iff.1 hv).1
  exact ⟨_, List.getElem?_eq_getElem (by rw [← h.len]; exact this)⟩
theorem Pool.ext {B : Nat} {vals : List Value} {lss : List (List Int)} {W W' : World} (h : Pool B vals lss W) (k : Ext W W') : Pool B vals lss W' :=
  ⟨h.len, fun i v xs hv hx => owns_ext (h.own i v xs hv hx) k, h.dis⟩
theorem Pool.kept {B : Nat} {vals : List Value} {lss : List (List Int)} {W W' : World} {row : Option Nat} (h : Pool B vals lss W) (hg : W.grownBy W' row) (hn : ∀ (i : Nat) (v : Value), vals[i]? = some v → v.ownBlock = none ∨ v.ownBlock ≠ row) : Pool B vals lss W' :=
  ⟨h.len, fun i v xs hv hx => (h.own i v xs hv hx).kept hg (hn i v hv), h.dis⟩
theorem Pool.low {B : Nat} {vals : List Value} {lss : List (List Int)} {W W' : World} {b : Nat} (h : Pool B vals lss W) (hg : W.grownBy W' (some b)) (hb : b < B) : Pool B vals lss W' :=
  h.kept hg (fun i v hv => by
    obtain ⟨xs, hx⟩ := h.at hv
    cases ho : v.ownBlock with
    | none => exact .inl rfl
    | some g => right; intro e; have e' : g = b := by simpa using e
                have := owns_block (h.own i v xs hv hx) g ho; omega)
theorem Pool.push {B : Nat} {vals : List Value} {lss : List (List Int)} {W W1 W4 : World} {i g cap : Nat} {v : Value} {xs : List Int} {x : Int} {t : TypeId} (h : Pool B vals lss W) (hx : Ext W W1) (hv : vals[i]? = some v) (hl : lss[i]? = some xs)
    (own : W4.ownsRow B 3 1 (.slice (some ⟨g, 0, none⟩) (xs.length + 1) cap) (xs.length + 1) (xs.map (.int .i64) ++ [.int .i64 x])) (hg : (W1.alloc (.cells #[.int .i64 x] t)).grownBy W4 v.ownBlock) (hloc : v.ownBlock = some g ∨ g = W1.heap.size + 1) :
    Pool B (vals.set i (.slice (some ⟨g, 0, none⟩) (xs.length + 1) cap)) (lss.set i (xs ++ [x])) W4 := by
  have hiv := (List.getElem?_eq_some_iff.1 hv).1
  have hil := (List.getElem?_eq_some_iff.1 hl).1
  have hnew : ∀ (j : Nat) (u : Value), i ≠ j → vals[j]? = some u → u.ownBlock ≠ some g := fun j u hne hu e => by
    rcases hloc with hl' | hl'
    · exact h.dis i j v u hne hv hu g hl' e
    · obtain ⟨ys, hy⟩ := h.at hu
      have := (World.ownsRow.lt (h.own j u ys hu hy) g e).2
      have := hx.size; omega
  refine ⟨by simp [h.len], fun j u ys hu hy => ?_, fun j k u u' hne hu hu' => ?_⟩
  · by_cases e : j = i
    · subst e
      rw [List.getElem?_set_self hiv] at hu
      rw [List.getElem?_set_self hil] at hy
      cases hu; cases hy
      rw [List.length_append, List.map_append]; exact own
    · rw [List.getElem?_set_ne (fun h => e h.symm)] at hu hy
      have ho := h.own j u ys hu hy
      refine ((owns_ext ho hx).alloc _).kept hg ?_
      cases hb : u.ownBlock with
      | none => exact .inl rfl
      | some k => right; intro e2; exact h.dis j i u v e hu hv k hb (e2 ▸ rfl)
  · by_cases e : j = i
    · subst e
      rw [List.getElem?_set_self hiv] at hu
      cases hu
      rw [List.getElem?_set_ne hne] at hu'
      intro k hk e2
      have hgk : g = k := by simpa [Value.ownBlock] using hk
      subst hgk
      exact hnew k u' hne hu' e2
    · rw [List.getElem?_set_ne (fun h => e h.symm)] at hu
      by_cases e' : k = i
      · subst e'
        rw [List.getElem?_set_self hiv] at hu'
        cases hu'
        intro m hm e2
        have hgm : g = m := by simpa [Value.ownBlock] using e2
        subst hgm
        exact hnew j u (fun h => e h.symm) hu hm
      · rw [List.getElem?_set_ne (fun h => e' h.symm)] at hu'
        exact h.dis j k u u' hne hu hu'

/-- Where the row i is kept: the houses' rows in block hb, the two others in the block ob. -/
def slotA (n ob hb i : Nat) : Addr := if i < n then ⟨hb, i, none⟩ else if i = n then ⟨ob, 1, none⟩ else ⟨ob, 2, none⟩
structure OutM (n ob hb B : Nat) (vals : List Value) (lss : List (List Int)) (W : World) : Prop where
  pool : Pool B vals lss W
  n2 : vals.length = n + 2
  c0 : W.cell? ⟨ob, 0, none⟩ = some (.slice (some ⟨hb, 0, none⟩) n n)
  c : ∀ i v, vals[i]? = some v → W.cell? (slotA n ob hb i) = some v ∧ W.frozen? (slotA n ob hb i) = false
  lt : ob < B ∧ hb < B
  ne : ob ≠ hb
theorem slotA_block (n ob hb i : Nat) : (slotA n ob hb i).block = hb ∨ (slotA n ob hb i).block = ob := by unfold slotA; split; exact .inl rfl; split <;> exact .inr rfl
theorem slotA_ne {n ob hb i j : Nat} (h : ob ≠ hb) (hij : i ≠ j) (hi : i < n + 2) (hj : j < n + 2) : slotA n ob hb i ≠ slotA n ob hb j := by
  unfold slotA
  intro e
  split at e <;> split at e <;> (try split at e) <;> (try split at e) <;> simp at e <;> omega
theorem slotA_c0 {n ob hb i : Nat} (h : ob ≠ hb) : (⟨ob, 0, none⟩ : Addr) ≠ slotA n ob hb i := by
  unfold slotA; intro e
  split at e
  · exact h (congrArg Addr.block e)
  · split at e <;> simp at e
theorem OutM.ext {n ob hb B : Nat} {vals : List Value} {lss : List (List Int)} {W W' : World} (h : OutM n ob hb B vals lss W) (k : Ext W W') : OutM n ob hb B vals lss W' :=
  ⟨h.pool.ext k, h.n2, k.cell h.c0, fun i v hv => ⟨k.cell (h.c i v hv).1, (k.frozen (lt_of_cell (h.c i v hv).1)).trans (h.c i v hv).2⟩, h.lt, h.ne⟩
theorem frozen_grown {w w' : World} {row : Option Nat} (h : w.grownBy w' row) {a : Addr} {v : Value} (hc : w.cell? a = some v) (hn : some a.block ≠ row) : w'.cell? a = some v ∧ w'.frozen? a = w.frozen? a := by
  have hb := h.block a.block (lt_of_cell hc) hn
  exact ⟨(World.cell?_of_block hb).trans hc, World.frozen?_of_block hb⟩
theorem OutM.kept {n ob hb B : Nat} {vals : List Value} {lss : List (List Int)} {W W' : World} {row : Option Nat} (h : OutM n ob hb B vals lss W) (hg : W.grownBy W' row) (hr : ∀ b, row = some b → ∃ o : Obj, W.heap[b]? = some o ∧ o.isCells = false) : OutM n ob hb B vals lss W' := by
  have hnc : ∀ (a : Addr) (v : Value), W.cell? a = some v → some a.block ≠ row := fun a v hc e => by
    obtain ⟨o, ho, hi⟩ := hr _ e.symm
    obtain ⟨o', ho', hi'⟩ := cells_of_cell hc
    rw [ho] at ho'; cases ho'; rw [hi] at hi'; cases hi'
  refine ⟨h.pool.kept hg (fun i v hv => ?_), h.n2, (frozen_grown hg h.c0 (hnc _ _ h.c0)).1, fun i v hv => ?_, h.lt, h.ne⟩
  · obtain ⟨xs, hx⟩ := h.pool.at hv
    rcases (h.pool.own i v xs hv hx).2 with ⟨rfl, _⟩ | ⟨g, cap, cur, rfl, _, hh, _⟩
    · exact .inl rfl
    · right; intro e
      obtain ⟨o, ho, hi⟩ := hr g (by rw [← e]; rfl)
      rw [hh] at ho; cases ho; cases hi
  · obtain ⟨h1, h2⟩ := h.c i v hv
    obtain ⟨h3, h4⟩ := frozen_grown hg h1 (hnc _ _ h1)
    exact ⟨h3, h4.trans h2⟩
theorem OutM.push {n ob hb B : Nat} {vals : List Value} {lss : List (List Int)} {W W1 W4 : World} {i g cap : Nat} {v : Value} {xs : List Int} {x : Int} {t : TypeId} (h : OutM n ob hb B vals lss W) (hx : Ext W W1) (hv : vals[i]? = some v) (hl : lss[i]? = some xs)
    (own : W4.ownsRow B 3 1 (.slice (some ⟨g, 0, none⟩) (xs.length + 1) cap) (xs.length + 1) (xs.map (.int .i64) ++ [.int .i64 x])) (hg : (W1.alloc (.cells #[.int .i64 x] t)).grownBy W4 v.ownBlock) (hloc : v.ownBlock = some g ∨ g = W1.heap.size + 1) :
    (W4.cell? (slotA n ob hb i) = some v ∧ W4.frozen? (slotA n ob hb i) = false ∧ W4.cell? ⟨ob, 0, none⟩ = some (.slice (some ⟨hb, 0, none⟩) n n)) ∧
    OutM n ob hb B (vals.set i (.slice (some ⟨g, 0, none⟩) (xs.length + 1) cap)) (lss.set i (xs ++ [x])) (W4.setCell (slotA n ob hb i) (.slice (some ⟨g, 0, none⟩) (xs.length + 1) cap)) := by
  have hiv := (List.getElem?_eq_some_iff.1 hv).1
  have hp := h.pool.push hx hv hl own hg hloc
  have hx2 : Ext W (W1.alloc (.cells #[.int .i64 x] t)) := hx.alloc _
  have hlow : ∀ a : Addr, a.block < B → some a.block ≠ v.ownBlock := fun a ha e => by have := owns_block (h.pool.own i v xs hv hl) _ e.symm; omega
  have hsl : ∀ j, (slotA n ob hb j).block < B := fun j => by have := h.lt; rcases slotA_block n ob hb j with e | e <;> omega
  have hc4 : ∀ j u, vals[j]? = some u → W4.cell? (slotA n ob hb j) = some u ∧ W4.frozen? (slotA n ob hb j) = false := fun j u hu => by
    obtain ⟨h1, h2⟩ := h.c j u hu
    obtain ⟨h3, h4⟩ := frozen_grown hg (hx2.cell h1) (hlow _ (hsl j))
    exact ⟨h3, h4.trans ((hx2.frozen (lt_of_cell h1)).trans h2)⟩
  have h0 := (frozen_grown hg (hx2.cell h.c0) (hlow _ h.lt.1)).1
  refine ⟨⟨(hc4 i v hv).1, (hc4 i v hv).2, h0⟩, ⟨hp.low (b := (slotA n ob hb i).block) ?_ (hsl i), by simp [h.n2], ?_, fun j u hu => ?_, h.lt, h.ne⟩⟩
  · exact ⟨rfl, rfl, rfl, by simp, fun k _ hk => Below.heap_setCell W4 _ _ k (fun e => hk (by rw [e]))⟩
  · rw [World.cell?_setCell_other (w := W4) (h := (slotA_c0 h.ne).symm)]; exact h0
  · have hj : j < n + 2 := by have := (List.getElem?_eq_some_iff.1 hu).1; simp [h.n2] at this; exact this
    rw [World.frozen?_setCell]
    by_cases e : j = i
    · subst e
      rw [List.getElem?_set_self hiv] at hu
      cases hu
      exact ⟨World.cell?_setCell_same W4 _ _ (hc4 j v hv).1, (hc4 j v hv).2⟩
    · rw [List.getElem?_set_ne (fun h => e h.symm)] at hu
      rw [World.cell?_setCell_other (w := W4) (h := slotA_ne h.ne (fun h => e h.symm) (by rw [← h.n2]; exact hiv) hj)]
      exact hc4 j u hu
end Go.Proofs.YtbeophjdiddomaaGreatDoor

/- search, in plain Lean: what is met in which round of which loop. -/
namespace Go.Proofs.YtbeophjdiddomaaGreatDoor

/-! ### The rows' members -/
def MemOf (lss : List (List Int)) (i : Nat) (P : Int → Prop) : Prop := ∃ xs, lss[i]? = some xs ∧ ∀ m, m ∈ xs ↔ P m
theorem MemOf.congr {lss : List (List Int)} {i : Nat} {P Q : Int → Prop} (h : MemOf lss i P) (hq : ∀ m, P m ↔ Q m) : MemOf lss i Q := by
  obtain ⟨xs, h1, h2⟩ := h; exact ⟨xs, h1, fun m => (h2 m).trans (hq m)⟩
theorem MemOf.same {lss : List (List Int)} {i : Nat} {P : Int → Prop} {xs : List Int} {x : Int} (h : MemOf lss i P) (hl : lss[i]? = some xs) : MemOf (lss.set i (xs ++ [x])) i (fun m => P m ∨ m = x) := by
  obtain ⟨ys, h1, h2⟩ := h
  rw [hl] at h1; cases h1
  have hil := (List.getElem?_eq_some_iff.1 hl).1
  exact ⟨_, List.getElem?_set_self hil, fun m => by simp [h2]⟩
theorem MemOf.other {lss : List (List Int)} {i j : Nat} {P : Int → Prop} {ys : List Int} (h : MemOf lss i P) (hij : j ≠ i) : MemOf (lss.set j ys) i P := by
  obtain ⟨xs, h1, h2⟩ := h
  exact ⟨xs, by rw [List.getElem?_set_ne hij]; exact h1, h2⟩
/-- The members of all rows: H those of the houses', A of all, C of the buttons. -/
structure Col (n : Nat) (lss : List (List Int)) (H : Nat → Int → Prop) (A C : Int → Prop) : Prop where
  h : ∀ i, i < n → MemOf lss i (H i)
  a : MemOf lss n A
  c : MemOf lss (n + 1) C
theorem Col.congr {n : Nat} {lss : List (List Int)} {H H' : Nat → Int → Prop} {A A' C C' : Int → Prop} (k : Col n lss H A C) (hH : ∀ i m, i < n → (H i m ↔ H' i m)) (hA : ∀ m, A m ↔ A' m) (hC : ∀ m, C m ↔ C' m) : Col n lss H' A' C' :=
  ⟨fun i hi => (k.h i hi).congr (fun m => hH i m hi), k.a.congr hA, k.c.congr hC⟩
theorem Col.all {n : Nat} {lss : List (List Int)} {H : Nat → Int → Prop} {A C : Int → Prop} {xs : List Int} {x : Int} (k : Col n lss H A C) (hl : lss[n]? = some xs) : Col n (lss.set n (xs ++ [x])) H (fun m => A m ∨ m = x) C :=
  ⟨fun i hi => (k.h i hi).other (by omega), k.a.same hl, k.c.other (by omega)⟩
theorem Col.button {n : Nat} {lss : List (List Int)} {H : Nat → Int → Prop} {A C : Int → Prop} {xs : List Int} {x : Int} (k : Col n lss H A C) (hl : lss[n + 1]? = some xs) : Col n (lss.set (n + 1) (xs ++ [x])) H A (fun m => C m ∨ m = x) :=
  ⟨fun i hi => (k.h i hi).other (by omega), k.a.other (by omega), k.c.same hl⟩
theorem Col.house {n i : Nat} {lss : List (List Int)} {H : Nat → Int → Prop} {A C : Int → Prop} {xs : List Int} {x : Int} (k : Col n lss H A C) (hi : i < n) (hl : lss[i]? = some xs) : Col n (lss.set i (xs ++ [x])) (fun j m => H j m ∨ (j = i ∧ m = x)) A C :=
  ⟨fun j hj => by
    by_cases e : j = i
    · subst e; exact ((k.h j hj).same hl).congr (fun m => by simp)
    · exact ((k.h j hj).other (fun h => e h.symm)).congr (fun m => by simp [e]), k.a.other (by omega), k.c.other (by omega)⟩
def LenLe (lss : List (List Int)) (N : Nat) : Prop := ∀ (i : Nat) (xs : List Int), lss[i]? = some xs → xs.length ≤ N
theorem LenLe.push {lss : List (List Int)} {N i : Nat} {xs : List Int} {x : Int} (h : LenLe lss N) (hl : lss[i]? = some xs) : LenLe (lss.set i (xs ++ [x])) (N + 1) := by
  intro j ys hy
  by_cases e : j = i
  · subst e
    rw [List.getElem?_set_self (List.getElem?_eq_some_iff.1 hl).1] at hy
    cases hy; have := h j xs hl; simp; omega
  · rw [List.getElem?_set_ne (fun h => e h.symm)] at hy; have := h j ys hy; omega
theorem LenLe.mono {lss : List (List Int)} {N M : Nat} (h : LenLe lss N) (k : N ≤ M) : LenLe lss M := fun i xs hx => Nat.le_trans (h i xs hx) k

/-! ### What is met -/
/-- House i can have brought m, and the sum be a. -/
def HitS (Ss : List (Int → Prop)) (most lo hi : Int) (i : Nat) (m a : Int) : Prop := setN Ss i m ∧ otherS Ss most i (a - m) ∧ lo ≤ a ∧ a ≤ hi
section
variable (Ss : List (Int → Prop)) (most lo hi : Int) (H0 : Nat → Int → Prop) (A0 : Int → Prop) (m0 : Prop)
def A2 (i : Nat) (a : Int) : Prop := A0 a ∨ ∃ j m, j < i ∧ HitS Ss most lo hi j m a
def H2 (i : Nat) (j : Nat) (m : Int) : Prop := H0 j m ∨ (j < i ∧ ∃ a, HitS Ss most lo hi j m a)
def met2 (i : Nat) : Prop := ∃ j m a, j < i ∧ HitS Ss most lo hi j m a
def A3 (i : Nat) (L : Int → Prop) (a : Int) : Prop := A2 Ss most lo hi A0 i a ∨ ∃ m, ¬ L m ∧ HitS Ss most lo hi i m a
def H3 (i : Nat) (L : Int → Prop) (j : Nat) (m : Int) : Prop := H2 Ss most lo hi H0 i j m ∨ (j = i ∧ ¬ L m ∧ ∃ a, HitS Ss most lo hi i m a)
def met3 (i : Nat) (L : Int → Prop) : Prop := met2 Ss most lo hi i ∨ ∃ m a, ¬ L m ∧ HitS Ss most lo hi i m a
def A4 (i : Nat) (L : Int → Prop) (x cur a : Int) : Prop := A3 Ss most lo hi A0 i L a ∨ (a < cur ∧ HitS Ss most lo hi i x a)
def fits4 (i : Nat) (x cur : Int) : Prop := ∃ a, a < cur ∧ HitS Ss most lo hi i x a
variable {Ss most lo hi H0 A0 m0}
theorem A4_yes {i : Nat} {L : Int → Prop} {x cur : Int} (h : HitS Ss most lo hi i x cur) (a : Int) : (A4 Ss most lo hi A0 i L x cur a ∨ a = cur) ↔ A4 Ss most lo hi A0 i L x (cur + 1) a := by
  unfold A4; constructor
  · rintro ((h1 | ⟨h1, h2⟩) | rfl)
    · exact .inl h1
    · exact .inr ⟨by omega, h2⟩
    · exact .inr ⟨by omega, h⟩
  · rintro (h1 | ⟨h1, h2⟩)
    · exact .inl (.inl h1)
    · by_cases e : a = cur
      · exact .inr e
      · exact .inl (.inr ⟨by omega, h2⟩)
theorem A4_no {i : Nat} {L : Int → Prop} {x cur : Int} (h : ¬ HitS Ss most lo hi i x cur) (a : Int) : A4 Ss most lo hi A0 i L x cur a ↔ A4 Ss most lo hi A0 i L x (cur + 1) a := by
  unfold A4; constructor
  · rintro (h1 | ⟨h1, h2⟩)
    · exact .inl h1
    · exact .inr ⟨by omega, h2⟩
  · rintro (h1 | ⟨h1, h2⟩)
    · exact .inl h1
    · by_cases e : a = cur
      · subst e; exact absurd h2 h
      · exact .inr ⟨by omega, h2⟩
theorem A4_start {i : Nat} {L : Int → Prop} {x : Int} (a : Int) : A4 Ss most lo hi A0 i L x lo a ↔ A3 Ss most lo hi A0 i L a := by
  unfold A4; constructor
  · rintro (h1 | ⟨h1, h2⟩)
    · exact h1
    · have := h2.2.2.1; omega
  · exact .inl
theorem A4_end {i : Nat} {L : Int → Prop} {x cur : Int} (hc : hi < cur) (a : Int) : A4 Ss most lo hi A0 i L x cur a ↔ A3 Ss most lo hi A0 i (fun z => L z ∧ z ≠ x) a := by
  unfold A4 A3; constructor
  · rintro ((h1 | ⟨m, h1, h2⟩) | ⟨h1, h2⟩)
    · exact .inl h1
    · exact .inr ⟨m, fun h => h1 h.1, h2⟩
    · exact .inr ⟨x, fun h => h.2 rfl, h2⟩
  · rintro (h1 | ⟨m, h1, h2⟩)
    · exact .inl (.inl h1)
    · by_cases e : m = x
      · subst e; exact .inr ⟨by have := h2.2.2.2; omega, h2⟩
      · exact .inl (.inr ⟨m, fun h => h1 ⟨h, e⟩, h2⟩)
theorem fits4_start {i : Nat} {x : Int} : ¬ fits4 Ss most lo hi i x lo := by rintro ⟨a, h1, h2⟩; have := h2.2.2.1; omega
theorem fits4_yes {i : Nat} {x cur : Int} (h : HitS Ss most lo hi i x cur) : fits4 Ss most lo hi i x (cur + 1) := ⟨cur, by omega, h⟩
theorem fits4_no {i : Nat} {x cur : Int} (h : ¬ HitS Ss most lo hi i x cur) : fits4 Ss most lo hi i x cur ↔ fits4 Ss most lo hi i x (cur + 1) := by
  unfold fits4; constructor
  · rintro ⟨a, h1, h2⟩; exact ⟨a, by omega, h2⟩
  · rintro ⟨a, h1, h2⟩
    by_cases e : a = cur
    · subst e; exact absurd h2 h
    · exact ⟨a, by omega, h2⟩
theorem fits4_end {i : Nat} {x cur : Int} (hc : hi < cur) : fits4 Ss most lo hi i x cur ↔ ∃ a, HitS Ss most lo hi i x a := by
  unfold fits4; constructor
  · rintro ⟨a, _, h⟩; exact ⟨a, h⟩
  · rintro ⟨a, h⟩; exact ⟨a, by have := h.2.2.2; omega, h⟩
theorem H3_yes {i : Nat} {L : Int → Prop} {x : Int} (h : ∃ a, HitS Ss most lo hi i x a) (j : Nat) (m : Int) : (H3 Ss most lo hi H0 i L j m ∨ (j = i ∧ m = x)) ↔ H3 Ss most lo hi H0 i (fun z => L z ∧ z ≠ x) j m := by
  unfold H3; constructor
  · rintro ((h1 | ⟨h1, h2, h3⟩) | ⟨h1, rfl⟩)
    · exact .inl h1
    · exact .inr ⟨h1, fun h => h2 h.1, h3⟩
    · exact .inr ⟨h1, fun h => h.2 rfl, h⟩
  · rintro (h1 | ⟨h1, h2, h3⟩)
    · exact .inl (.inl h1)
    · by_cases e : m = x
      · exact .inr ⟨h1, e⟩
      · exact .inl (.inr ⟨h1, fun h => h2 ⟨h, e⟩, h3⟩)
theorem H3_no {i : Nat} {L : Int → Prop} {x : Int} (h : ¬ ∃ a, HitS Ss most lo hi i x a) (j : Nat) (m : Int) : H3 Ss most lo hi H0 i L j m ↔ H3 Ss most lo hi H0 i (fun z => L z ∧ z ≠ x) j m := by
  unfold H3; constructor
  · rintro (h1 | ⟨h1, h2, h3⟩)
    · exact .inl h1
    · exact .inr ⟨h1, fun h => h2 h.1, h3⟩
  · rintro (h1 | ⟨h1, h2, h3⟩)
    · exact .inl h1
    · by_cases e : m = x
      · subst e; exact absurd h3 h
      · exact .inr ⟨h1, fun h => h2 ⟨h, e⟩, h3⟩
theorem met3_yes {i : Nat} {L : Int → Prop} {x : Int} (h : ∃ a, HitS Ss most lo hi i x a) : met3 Ss most lo hi i (fun z => L z ∧ z ≠ x) := by
  obtain ⟨a, h⟩ := h; exact .inr ⟨x, a, fun h => h.2 rfl, h⟩
theorem met3_no {i : Nat} {L : Int → Prop} {x : Int} (h : ¬ ∃ a, HitS Ss most lo hi i x a) : met3 Ss most lo hi i L ↔ met3 Ss most lo hi i (fun z => L z ∧ z ≠ x) := by
  unfold met3; constructor
  · rintro (h1 | ⟨m, a, h2, h3⟩)
    · exact .inl h1
    · exact .inr ⟨m, a, fun h => h2 h.1, h3⟩
  · rintro (h1 | ⟨m, a, h2, h3⟩)
    · exact .inl h1
    · by_cases e : m = x
      · subst e; exact absurd ⟨a, h3⟩ h
      · exact .inr ⟨m, a, fun h => h2 ⟨h, e⟩, h3⟩
theorem A3_start {i : Nat} (a : Int) : A3 Ss most lo hi A0 i (setN Ss i) a ↔ A2 Ss most lo hi A0 i a := by
  unfold A3; constructor
  · rintro (h | ⟨m, h1, h2⟩)
    · exact h
    · exact absurd h2.1 h1
  · exact .inl
theorem H3_start {i : Nat} (j : Nat) (m : Int) : H3 Ss most lo hi H0 i (setN Ss i) j m ↔ H2 Ss most lo hi H0 i j m := by
  unfold H3; constructor
  · rintro (h | ⟨h0, h1, a, h2⟩)
    · exact h
    · exact absurd h2.1 h1
  · exact .inl
theorem met3_start {i : Nat} : met3 Ss most lo hi i (setN Ss i) ↔ met2 Ss most lo hi i := by
  unfold met3; constructor
  · rintro (h | ⟨m, a, h1, h2⟩)
    · exact h
    · exact absurd h2.1 h1
  · exact .inl
theorem A3_end {i : Nat} {L : Int → Prop} (hL : ∀ m, setN Ss i m → ¬ L m) (a : Int) : A3 Ss most lo hi A0 i L a ↔ A2 Ss most lo hi A0 (i + 1) a := by
  unfold A3 A2; constructor
  · rintro ((h | ⟨j, m, h1, h2⟩) | ⟨m, h1, h2⟩)
    · exact .inl h
    · exact .inr ⟨j, m, by omega, h2⟩
    · exact .inr ⟨i, m, by omega, h2⟩
  · rintro (h | ⟨j, m, h1, h2⟩)
    · exact .inl (.inl h)
    · by_cases e : j = i
      · subst e; exact .inr ⟨m, hL m h2.1, h2⟩
      · exact .inl (.inr ⟨j, m, by omega, h2⟩)
theorem H3_end {i : Nat} {L : Int → Prop} (hL : ∀ m, setN Ss i m → ¬ L m) (j : Nat) (m : Int) : H3 Ss most lo hi H0 i L j m ↔ H2 Ss most lo hi H0 (i + 1) j m := by
  unfold H3 H2; constructor
  · rintro ((h | ⟨h1, h2⟩) | ⟨h1, h2, h3⟩)
    · exact .inl h
    · exact .inr ⟨by omega, h2⟩
    · exact .inr ⟨by omega, by rw [h1]; exact h3⟩
  · rintro (h | ⟨h1, a, h2⟩)
    · exact .inl (.inl h)
    · by_cases e : j = i
      · exact .inr ⟨e, hL m (e ▸ h2.1), a, e ▸ h2⟩
      · exact .inl (.inr ⟨by omega, a, h2⟩)
theorem met3_end {i : Nat} {L : Int → Prop} (hL : ∀ m, setN Ss i m → ¬ L m) : met3 Ss most lo hi i L ↔ met2 Ss most lo hi (i + 1) := by
  unfold met3 met2; constructor
  · rintro (⟨j, m, a, h1, h2⟩ | ⟨m, a, h1, h2⟩)
    · exact ⟨j, m, a, by omega, h2⟩
    · exact ⟨i, m, a, by omega, h2⟩
  · rintro ⟨j, m, a, h1, h2⟩
    by_cases e : j = i
    · subst e; exact .inr ⟨m, a, hL m h2.1, h2⟩
    · exact .inl ⟨j, m, a, by omega, h2⟩
end

/-! ### The whole search -/
/-- What house i can have brought, if a button weighs so much; the house free need not have counted right. -/
def ownS (r : Round) (free : Int) (button : Int) (i : Nat) : Int → Prop := fun n => ∃ h, r.houses[i]? = some h ∧ ∃ x, x ∈ waysOf r button h (decide ((i : Int) = free)) ∧ n = nOf r x.1 x.2
def ownSs (r : Round) (free button : Int) : List (Int → Prop) := (List.range r.houses.length).map (ownS r free button)
def HitR (r : Round) (free button : Int) (i : Nat) (m a : Int) : Prop := HitS (ownSs r free button) (r.all + r.off) (r.all - r.off) (r.all + r.off) i m a
def houseR (r : Round) (free : Int) (hi : Int) (i : Nat) (m : Int) : Prop := ∃ b, r.lo ≤ b ∧ b < hi ∧ ∃ a, HitR r free b i m a
def allR (r : Round) (free : Int) (hi : Int) (a : Int) : Prop := ∃ b, r.lo ≤ b ∧ b < hi ∧ ∃ i m, i < r.houses.length ∧ HitR r free b i m a
def buttonR (r : Round) (free : Int) (hi : Int) (b : Int) : Prop := r.lo ≤ b ∧ b < hi ∧ ∃ i m a, i < r.houses.length ∧ HitR r free b i m a
theorem ownSs_at {r : Round} {free button : Int} {i : Nat} (h : i < r.houses.length) : setN (ownSs r free button) i = ownS r free button i := by
  unfold setN ownSs; simp [List.getD, h]
end Go.Proofs.YtbeophjdiddomaaGreatDoor

/- Choices, one number of each set: what a search meets is what some choice has. Plain Lean. -/
namespace Go.Proofs.YtbeophjdiddomaaGreatDoor

/-! ### Sums -/
/-- The sum of the k numbers of f from a on. -/
def sumF (f : Nat → Int) (a : Nat) : Nat → Int
  | 0 => 0
  | k + 1 => sumF f a k + f (a + k)
theorem sumF_congr {f g : Nat → Int} {a : Nat} : ∀ {k : Nat}, (∀ i, a ≤ i → i < a + k → f i = g i) → sumF f a k = sumF g a k
  | 0, _ => rfl
  | k + 1, h => by
    rw [sumF, sumF, sumF_congr (fun i h1 h2 => h i h1 (by omega)), h (a + k) (by omega) (by omega)]
theorem sumF_front (f : Nat → Int) (a k : Nat) : sumF f a (k + 1) = f a + sumF f (a + 1) k := by
  induction k with
  | zero => simp [sumF]
  | succ k ih => rw [sumF, ih, sumF, show a + (k + 1) = a + 1 + k by omega]; omega
theorem sumF_add (f : Nat → Int) (a j k : Nat) : sumF f a (j + k) = sumF f a j + sumF f (a + j) k := by
  induction k with
  | zero => simp [sumF]
  | succ k ih => rw [← Nat.add_assoc, sumF, ih, sumF, show a + (j + k) = a + j + k by omega]; omega
theorem sumF_nonneg {f : Nat → Int} {a : Nat} : ∀ {k : Nat}, (∀ i, a ≤ i → i < a + k → 0 ≤ f i) → 0 ≤ sumF f a k
  | 0, _ => by simp [sumF]
  | k + 1, h => by
    have h1 := sumF_nonneg (k := k) (fun i h1 h2 => h i h1 (by omega))
    have h2 := h (a + k) (by omega) (by omega)
    rw [sumF]; omega
/-- The sum without the number at i. -/
theorem sumF_at (f : Nat → Int) {n i : Nat} (hi : i < n) : sumF f 0 n = sumF f 0 i + (f i + sumF f (i + 1) (n - 1 - i)) := by
  have h1 := sumF_add f 0 i (n - i)
  rw [show i + (n - i) = n by omega] at h1
  rw [h1, show n - i = (n - 1 - i) + 1 by omega, sumF_front]; simp
theorem sumF_le {f : Nat → Int} {m : Int} {a : Nat} : ∀ {k : Nat}, (∀ i, a ≤ i → i < a + k → f i ≤ m) → sumF f a k ≤ k * m
  | 0, _ => by simp [sumF]
  | k + 1, h => by
    have h1 := sumF_le (k := k) (fun i h1 h2 => h i h1 (by omega))
    have h2 := h (a + k) (by omega) (by omega)
    rw [sumF, Int.natCast_succ, Int.add_mul, Int.one_mul]; omega

/-! ### What the sets of the search hold -/
def NonNeg (Ss : List (Int → Prop)) : Prop := ∀ i n, setN Ss i n → 0 ≤ n
theorem befS_iff {Ss : List (Int → Prop)} {most : Int} (h0 : 0 ≤ most) (hn : NonNeg Ss) : ∀ (k : Nat) (n : Int), befS Ss most k n ↔ ∃ f : Nat → Int, (∀ i, i < k → setN Ss i (f i)) ∧ n = sumF f 0 k ∧ n ≤ most
  | 0, n => by
    constructor
    · intro h; have e : n = 0 := h; exact ⟨fun _ => 0, fun i h => by omega, by rw [e]; rfl, by omega⟩
    · rintro ⟨f, _, h, _⟩; exact h
  | k + 1, n => by
    constructor
    · rintro ⟨x, y, hx, hy, rfl, hm⟩
      obtain ⟨f, h1, h2, _⟩ := (befS_iff h0 hn k x).1 hx
      refine ⟨fun i => if i = k then y else f i, fun i hi => ?_, ?_, hm⟩
      · by_cases e : i = k
        · subst e; simpa using hy
        · simp only [e, if_false]; exact h1 i (by omega)
      · rw [sumF, h2, sumF_congr (f := f) (g := fun i => if i = k then y else f i) (fun i _ hi => by rw [if_neg (by omega)])]; simp
    · rintro ⟨f, h1, h2, h3⟩
      have hk := h1 k (by omega)
      have := hn k _ hk
      rw [sumF, Nat.zero_add] at h2
      exact ⟨sumF f 0 k, f k, (befS_iff h0 hn k _).2 ⟨f, fun i hi => h1 i (by omega), rfl, by omega⟩, hk, h2, h3⟩
theorem aftS_iff {Ss : List (Int → Prop)} {most : Int} (h0 : 0 ≤ most) (hn : NonNeg Ss) : ∀ (j : Nat), j ≤ Ss.length → ∀ (n : Int), aftS Ss most j n ↔ ∃ f : Nat → Int, (∀ i, Ss.length - j ≤ i → i < Ss.length → setN Ss i (f i)) ∧ n = sumF f (Ss.length - j) j ∧ n ≤ most
  | 0, _, n => by
    constructor
    · intro h; have e : n = 0 := h; exact ⟨fun _ => 0, fun i h h' => by omega, by rw [e]; rfl, by omega⟩
    · rintro ⟨f, _, h, _⟩; exact h
  | j + 1, hj, n => by
    have hp : Ss.length - j = Ss.length - (j + 1) + 1 := by omega
    have hq : Ss.length - 1 - j = Ss.length - (j + 1) := by omega
    have ih := aftS_iff h0 hn j (by omega)
    rw [hp] at ih
    simp only [aftS, hq]
    generalize hP : Ss.length - (j + 1) = p at ih
    constructor
    · rintro ⟨x, y, hx, hy, rfl, hm⟩
      obtain ⟨f, h1, h2, _⟩ := (ih x).1 hx
      refine ⟨fun i => if i = p then y else f i, fun i hi hi' => ?_, ?_, hm⟩
      · by_cases e : i = p
        · subst e; simpa using hy
        · simp only [e, if_false]; exact h1 i (by omega) hi'
      · rw [sumF_front, h2, sumF_congr (f := f) (g := fun i => if i = p then y else f i) (fun i hi _ => by rw [if_neg (by omega)])]; simp; omega
    · rintro ⟨f, h1, h2, h3⟩
      have hk := h1 p (by omega) (by omega)
      have := hn p _ hk
      rw [sumF_front] at h2
      exact ⟨sumF f (p + 1) j, f p, (ih _).2 ⟨f, fun i hi hi' => h1 i (by omega) hi', rfl, by omega⟩, hk, by omega, h3⟩
/-- What is met is what a choice of one number of each set has. -/
theorem hitS_iff {Ss : List (Int → Prop)} {lo hi : Int} (h0 : 0 ≤ hi) (hn : NonNeg Ss) {i : Nat} (hi' : i < Ss.length) {m a : Int} : HitS Ss hi lo hi i m a ↔ ∃ f : Nat → Int, (∀ j, j < Ss.length → setN Ss j (f j)) ∧ f i = m ∧ a = sumF f 0 Ss.length ∧ lo ≤ a ∧ a ≤ hi := by
  have hL : Ss.length - (Ss.length - 1 - i) = i + 1 := by omega
  constructor
  · rintro ⟨hm, ⟨x, y, hx, hy, hxy, hle⟩, h1, h2⟩
    obtain ⟨f, f1, f2, _⟩ := (befS_iff h0 hn i x).1 hx
    obtain ⟨g, g1, g2, _⟩ := (aftS_iff h0 hn _ (by omega) y).1 hy
    rw [hL] at g1 g2
    refine ⟨fun j => if j < i then f j else if j = i then m else g j, fun j hj => ?_, by simp, ?_, h1, h2⟩
    · by_cases e1 : j < i
      · simp only [e1, if_true]; exact f1 j e1
      · by_cases e2 : j = i
        · subst e2; simpa using hm
        · simp only [e1, e2, if_false]; exact g1 j (by omega) hj
    · rw [sumF_at _ hi', ← sumF_congr (f := f) (a := 0) (k := i) (fun j _ hj => by rw [if_pos (by omega)]), ← sumF_congr (f := g) (a := i + 1) (fun j hj _ => by rw [if_neg (by omega), if_neg (by omega)]), ← f2, ← g2]
      simp; omega
  · rintro ⟨f, h1, h2, h3, h4, h5⟩
    have hx0 : 0 ≤ sumF f 0 i := sumF_nonneg (fun j _ hj => hn j _ (h1 j (by omega)))
    have hy0 : 0 ≤ sumF f (i + 1) (Ss.length - 1 - i) := sumF_nonneg (fun j _ hj => hn j _ (h1 j (by omega)))
    have hm0 := hn i _ (h1 i hi')
    have hs := sumF_at f hi'
    refine ⟨h2 ▸ h1 i hi', ⟨sumF f 0 i, sumF f (i + 1) (Ss.length - 1 - i), (befS_iff h0 hn i _).2 ⟨f, fun j hj => h1 j (by omega), rfl, by omega⟩, (aftS_iff h0 hn _ (by omega) _).2 ⟨f, fun j hj hj' => h1 j hj', by rw [hL], by omega⟩, by omega, by omega⟩, h4, h5⟩

/-! ### Truths -/
/-- f is a number of buttons for each house, all of which can be if a button weighs b; a is their sum. -/
def PickR (r : Round) (free b : Int) (f : Nat → Int) (a : Int) : Prop := (∀ j, j < r.houses.length → ownS r free b j (f j)) ∧ a = sumF f 0 r.houses.length ∧ r.all - r.off ≤ a ∧ a ≤ r.all + r.off
theorem ownSs_length (r : Round) (free b : Int) : (ownSs r free b).length = r.houses.length := by simp [ownSs]
theorem mem_ways {r : Round} {b : Int} {h : House} {free : Bool} {x : Int × Int} (hx : x ∈ waysOf r b h free) : okB r b h free x = true ∧ 0 ≤ x.1 ∧ x.1 ≤ h.cards ∧ 0 ≤ x.2 ∧ x.2 < r.per := by
  unfold waysOf at hx
  simp only [List.mem_flatMap, List.mem_filter, List.mem_range] at hx
  obtain ⟨f, hf, hm, ho⟩ := hx
  unfold rowOf at hm
  simp only [List.mem_map, List.mem_range] at hm
  obtain ⟨j, hj, rfl⟩ := hm
  exact ⟨ho, by simp, by simp; omega, by simp, by simp; omega⟩
theorem mem_ways_iff {r : Round} {b : Int} {h : House} {free : Bool} {x : Int × Int} : x ∈ waysOf r b h free ↔ okB r b h free x = true ∧ 0 ≤ x.1 ∧ x.1 ≤ h.cards ∧ 0 ≤ x.2 ∧ x.2 < r.per := by
  refine ⟨mem_ways, fun ⟨h1, h2, h3, h4, h5⟩ => ?_⟩
  unfold waysOf
  simp only [List.mem_flatMap, List.mem_filter, List.mem_range]
  refine ⟨x.1.toNat, by omega, ?_, h1⟩
  unfold rowOf
  simp only [List.mem_map, List.mem_range]
  exact ⟨x.2.toNat, by omega, by rw [Int.toNat_of_nonneg h2, Int.toNat_of_nonneg h4]⟩
theorem ownS_pos {r : Round} (hB : RoundB r) {free b : Int} {i : Nat} {n : Int} (h : ownS r free b i n) : 0 ≤ n := by
  obtain ⟨hs, h1, x, hx, rfl⟩ := h
  obtain ⟨_, h2, _, h3, _⟩ := mem_ways hx
  have hp := hB.p1
  unfold nOf
  have := Int.mul_nonneg (a := r.per) (b := x.1) (by omega) h2
  omega
theorem nonNeg_own {r : Round} (hB : RoundB r) (free b : Int) : NonNeg (ownSs r free b) := by
  intro i n h
  by_cases hi : i < r.houses.length
  · rw [ownSs_at hi] at h; exact ownS_pos hB h
  · unfold setN at h
    rw [List.getD_eq_getElem?_getD, List.getElem?_eq_none (by rw [ownSs_length]; omega)] at h
    exact h.elim
theorem hitR_iff {r : Round} (hB : RoundB r) {free b : Int} {i : Nat} (hi : i < r.houses.length) {m a : Int} : HitR r free b i m a ↔ ∃ f, PickR r free b f a ∧ f i = m := by
  have h0 : 0 ≤ r.all + r.off := by have := hB.a1; have := hB.o1; omega
  unfold HitR
  rw [hitS_iff h0 (nonNeg_own hB free b) (by rw [ownSs_length]; exact hi), ownSs_length]
  constructor
  · rintro ⟨f, h1, h2, h3, h4, h5⟩
    exact ⟨f, ⟨fun j hj => by have := h1 j hj; rwa [ownSs_at hj] at this, h3, h4, h5⟩, h2⟩
  · rintro ⟨f, ⟨h1, h3, h4, h5⟩, h2⟩
    exact ⟨f, fun j hj => by rw [ownSs_at hj]; exact h1 j hj, h2, h3, h4, h5⟩
theorem houseR_iff {r : Round} (hB : RoundB r) {free hi : Int} {i : Nat} (hi' : i < r.houses.length) {m : Int} : houseR r free hi i m ↔ ∃ b f a, r.lo ≤ b ∧ b < hi ∧ PickR r free b f a ∧ f i = m := by
  unfold houseR
  constructor
  · rintro ⟨b, h1, h2, a, h⟩
    obtain ⟨f, h3, h4⟩ := (hitR_iff hB hi').1 h
    exact ⟨b, f, a, h1, h2, h3, h4⟩
  · rintro ⟨b, f, a, h1, h2, h3, h4⟩
    exact ⟨b, h1, h2, a, (hitR_iff hB hi').2 ⟨f, h3, h4⟩⟩
theorem allR_iff {r : Round} (hB : RoundB r) {free hi a : Int} : allR r free hi a ↔ ∃ b f, r.lo ≤ b ∧ b < hi ∧ PickR r free b f a := by
  unfold allR
  constructor
  · rintro ⟨b, h1, h2, i, m, h3, h⟩
    obtain ⟨f, h4, _⟩ := (hitR_iff hB h3).1 h
    exact ⟨b, f, h1, h2, h4⟩
  · rintro ⟨b, f, h1, h2, h3⟩
    have := hB.h1
    exact ⟨b, h1, h2, 0, f 0, by omega, (hitR_iff hB (by omega)).2 ⟨f, h3, rfl⟩⟩
theorem buttonR_iff {r : Round} (hB : RoundB r) {free hi b : Int} : buttonR r free hi b ↔ r.lo ≤ b ∧ b < hi ∧ ∃ f a, PickR r free b f a := by
  unfold buttonR
  constructor
  · rintro ⟨h1, h2, i, m, a, h3, h⟩
    obtain ⟨f, h4, _⟩ := (hitR_iff hB h3).1 h
    exact ⟨h1, h2, f, a, h4⟩
  · rintro ⟨h1, h2, f, a, h3⟩
    have := hB.h1
    exact ⟨h1, h2, 0, f 0, a, by omega, (hitR_iff hB (by omega)).2 ⟨f, h3, rfl⟩⟩
/-- If anything is met, every house has a number that is met. -/
theorem house_of_button {r : Round} (hB : RoundB r) {free hi : Int} {i : Nat} (hi' : i < r.houses.length) (h : ∃ b, buttonR r free hi b) : ∃ m, houseR r free hi i m := by
  obtain ⟨b, hb⟩ := h
  obtain ⟨h1, h2, f, a, h3⟩ := (buttonR_iff hB).1 hb
  exact ⟨f i, (houseR_iff hB hi').2 ⟨b, f, a, h1, h2, h3, rfl⟩⟩
theorem button_of_house {r : Round} (hB : RoundB r) {free hi : Int} {i : Nat} (hi' : i < r.houses.length) {m : Int} (h : houseR r free hi i m) : ∃ b, buttonR r free hi b := by
  obtain ⟨b, f, a, h1, h2, h3, _⟩ := (houseR_iff hB hi').1 h
  exact ⟨b, (buttonR_iff hB).2 ⟨h1, h2, f, a, h3⟩⟩
theorem all_of_button {r : Round} (hB : RoundB r) {free hi : Int} (h : ∃ b, buttonR r free hi b) : ∃ a, allR r free hi a := by
  obtain ⟨b, hb⟩ := h
  obtain ⟨h1, h2, f, a, h3⟩ := (buttonR_iff hB).1 hb
  exact ⟨a, (allR_iff hB).2 ⟨b, f, h1, h2, h3⟩⟩

/-! ### Both ends -/
structure EndsOf (P : Int → Prop) (lo hi : Int) : Prop where
  l : P lo
  h : P hi
  b : ∀ m, P m → lo ≤ m ∧ m ≤ hi
theorem EndsOf.uniq {P : Int → Prop} {lo hi lo' hi' : Int} (h : EndsOf P lo hi) (k : EndsOf P lo' hi') : lo = lo' ∧ hi = hi' := by
  have h1 := h.b _ k.l; have h2 := h.b _ k.h; have h3 := k.b _ h.l; have h4 := k.b _ h.h; omega
theorem EndsOf.congr {P Q : Int → Prop} {lo hi : Int} (h : EndsOf P lo hi) (hq : ∀ m, P m ↔ Q m) : EndsOf Q lo hi :=
  ⟨(hq _).1 h.l, (hq _).1 h.h, fun m hm => h.b m ((hq m).2 hm)⟩
theorem foldl_min_le : ∀ (l : List Int) (x : Int), l.foldl min x ≤ x ∧ ∀ y, y ∈ l → l.foldl min x ≤ y
  | [], x => ⟨Int.le_refl _, fun y h => by simp at h⟩
  | z :: l, x => by
    obtain ⟨h1, h2⟩ := foldl_min_le l (min x z)
    simp only [List.foldl_cons]
    refine ⟨by omega, fun y hy => ?_⟩
    rcases List.mem_cons.1 hy with rfl | hy
    · omega
    · exact h2 y hy
theorem foldl_min_mem : ∀ (l : List Int) (x : Int), l.foldl min x ∈ x :: l
  | [], x => by simp
  | z :: l, x => by
    simp only [List.foldl_cons]
    have h := foldl_min_mem l (min x z)
    rcases List.mem_cons.1 h with h | h
    · rw [h]; rcases (show min x z = x ∨ min x z = z by omega) with e | e <;> rw [e] <;> simp
    · simp [h]
theorem foldl_max_le : ∀ (l : List Int) (x : Int), x ≤ l.foldl max x ∧ ∀ y, y ∈ l → y ≤ l.foldl max x
  | [], x => ⟨Int.le_refl _, fun y h => by simp at h⟩
  | z :: l, x => by
    obtain ⟨h1, h2⟩ := foldl_max_le l (max x z)
    simp only [List.foldl_cons]
    refine ⟨by omega, fun y hy => ?_⟩
    rcases List.mem_cons.1 hy with rfl | hy
    · omega
    · exact h2 y hy
theorem foldl_max_mem : ∀ (l : List Int) (x : Int), l.foldl max x ∈ x :: l
  | [], x => by simp
  | z :: l, x => by
    simp only [List.foldl_cons]
    have h := foldl_max_mem l (max x z)
    rcases List.mem_cons.1 h with h | h
    · rw [h]; rcases (show max x z = x ∨ max x z = z by omega) with e | e <;> rw [e] <;> simp
    · simp [h]
theorem ends_list (x : Int) (l : List Int) : EndsOf (· ∈ x :: l) (l.foldl min x) (l.foldl max x) :=
  ⟨foldl_min_mem l x, foldl_max_mem l x, fun m hm => by
    have h1 := foldl_min_le l x
    have h2 := foldl_max_le l x
    rcases List.mem_cons.1 hm with rfl | hm
    · exact ⟨h1.1, h2.1⟩
    · exact ⟨h1.2 m hm, h2.2 m hm⟩⟩

/-! ### Truths, as lists: for rounds that are known -/
def prods : List (List Int) → List (List Int)
  | [] => [[]]
  | l :: ls => l.flatMap fun x => (prods ls).map (x :: ·)
def fOf (xs : List Int) : Nat → Int := fun i => xs.getD i 0
theorem mem_prods : ∀ {Ls : List (List Int)} {xs : List Int}, xs ∈ prods Ls ↔ xs.length = Ls.length ∧ ∀ i, i < Ls.length → xs.getD i 0 ∈ Ls.getD i []
  | [], xs => by
    simp only [prods, List.mem_singleton, List.length_nil]
    exact ⟨fun h => by subst h; exact ⟨rfl, fun i hi => by omega⟩, fun h => List.length_eq_zero_iff.1 h.1⟩
  | l :: ls, xs => by
    simp only [prods, List.mem_flatMap, List.mem_map]
    constructor
    · rintro ⟨x, hx, ys, hy, rfl⟩
      obtain ⟨h1, h2⟩ := mem_prods.1 hy
      refine ⟨by simp [h1], fun i hi => ?_⟩
      cases i with
      | zero => simpa using hx
      | succ i => simpa using h2 i (by simpa using hi)
    · rintro ⟨h1, h2⟩
      cases xs with
      | nil => simp at h1
      | cons x ys =>
        refine ⟨x, by simpa using h2 0 (by simp), ys, mem_prods.2 ⟨by simpa using h1, fun i hi => by simpa using h2 (i + 1) (by simpa using hi)⟩, rfl⟩
def noHouse : House := ⟨0, 0, 0, 0, 0, 0⟩
def couldL (r : Round) (free b : Int) (i : Nat) : List Int := (waysOf r b (r.houses.getD i noHouse) (decide ((i : Int) = free))).map fun x => nOf r x.1 x.2
theorem mem_couldL {r : Round} {free b : Int} {i : Nat} (hi : i < r.houses.length) {n : Int} : n ∈ couldL r free b i ↔ ownS r free b i n := by
  unfold couldL ownS
  have e : r.houses[i]? = some (r.houses[i]) := List.getElem?_eq_getElem hi
  rw [List.getD_eq_getElem?_getD, e]
  simp only [Option.getD_some, List.mem_map]
  constructor
  · rintro ⟨x, hx, rfl⟩; exact ⟨_, rfl, x, hx, rfl⟩
  · rintro ⟨h, hh, x, hx, rfl⟩; cases hh; exact ⟨x, hx, rfl⟩
theorem sumF_list : ∀ (xs : List Int), sumF (fOf xs) 0 xs.length = xs.sum
  | [] => rfl
  | x :: xs => by
    rw [List.length_cons, sumF_front, List.sum_cons, ← sumF_list xs]
    have : ∀ k, sumF (fOf (x :: xs)) (0 + 1) k = sumF (fOf xs) 0 k := by
      intro k
      induction k with
      | zero => rfl
      | succ k ih => rw [sumF, ih, sumF, show 0 + 1 + k = (0 + k) + 1 by omega]; rfl
    rw [this]; rfl
def truthsL (r : Round) (free b : Int) : List (List Int) := (prods ((List.range r.houses.length).map (couldL r free b))).filter fun xs => decide (r.all - r.off ≤ xs.sum ∧ xs.sum ≤ r.all + r.off)
theorem mem_truthsL {r : Round} {free b : Int} {xs : List Int} : xs ∈ truthsL r free b ↔ xs.length = r.houses.length ∧ PickR r free b (fOf xs) xs.sum := by
  unfold truthsL PickR
  rw [List.mem_filter, mem_prods, decide_eq_true_eq]
  simp only [List.length_map, List.length_range]
  constructor
  · rintro ⟨⟨h1, h2⟩, h3⟩
    refine ⟨h1, fun j hj => ?_, by rw [← h1, sumF_list], h3⟩
    have := h2 j hj
    rw [List.getD_eq_getElem?_getD, List.getElem?_map, List.getElem?_range hj] at this
    exact (mem_couldL hj).1 this
  · rintro ⟨h1, h2, _, h3⟩
    refine ⟨⟨h1, fun j hj => ?_⟩, h3⟩
    rw [List.getD_eq_getElem?_getD (l := List.map _ _), List.getElem?_map, List.getElem?_range hj]
    exact (mem_couldL hj).2 (h2 j hj)
theorem pick_list {r : Round} {free b : Int} {f : Nat → Int} {a : Int} (h : PickR r free b f a) : ∃ xs, xs ∈ truthsL r free b ∧ a = xs.sum ∧ ∀ i, i < r.houses.length → xs.getD i 0 = f i := by
  obtain ⟨h1, h2, h3⟩ := h
  have hg : ∀ i, i < r.houses.length → ((List.range r.houses.length).map f).getD i 0 = f i := fun i hi => by
    rw [List.getD_eq_getElem?_getD, List.getElem?_map, List.getElem?_range hi]; rfl
  have hs : ((List.range r.houses.length).map f).sum = a := by
    rw [h2, ← sumF_list]
    simp only [List.length_map, List.length_range]
    exact sumF_congr (fun i _ hi => hg i (by omega))
  refine ⟨(List.range r.houses.length).map f, mem_truthsL.2 ⟨by simp, fun j hj => ?_, ?_, ?_⟩, hs.symm, hg⟩
  · unfold fOf; rw [hg j hj]; exact h1 j hj
  · rw [hs, h2]; exact (sumF_congr (fun i _ hi => hg i (by omega))).symm
  · rw [hs]; exact h3
def buttonsL (r : Round) : List Int := (List.range (r.hi - r.lo + 1).toNat).map fun (i : Nat) => r.lo + (i : Int)
theorem mem_buttonsL {r : Round} {b : Int} : b ∈ buttonsL r ↔ r.lo ≤ b ∧ b < r.hi + 1 := by
  unfold buttonsL
  simp only [List.mem_map, List.mem_range]
  constructor
  · rintro ⟨i, hi, rfl⟩; omega
  · rintro ⟨h1, h2⟩; exact ⟨(b - r.lo).toNat, by omega, by omega⟩
def houseL (r : Round) (free : Int) (i : Nat) : List Int := (buttonsL r).flatMap fun b => (truthsL r free b).map fun xs => xs.getD i 0
def allL (r : Round) (free : Int) : List Int := (buttonsL r).flatMap fun b => (truthsL r free b).map fun xs => xs.sum
def butsL (r : Round) (free : Int) : List Int := (buttonsL r).filter fun b => decide (truthsL r free b ≠ [])
theorem mem_houseL {r : Round} (hB : RoundB r) {free : Int} {i : Nat} (hi : i < r.houses.length) {m : Int} : m ∈ houseL r free i ↔ houseR r free (r.hi + 1) i m := by
  rw [houseR_iff hB hi]
  unfold houseL
  simp only [List.mem_flatMap, List.mem_map, mem_buttonsL]
  constructor
  · rintro ⟨b, ⟨h1, h2⟩, xs, hx, rfl⟩
    exact ⟨b, fOf xs, _, h1, h2, (mem_truthsL.1 hx).2, rfl⟩
  · rintro ⟨b, f, a, h1, h2, h3, rfl⟩
    obtain ⟨xs, h4, _, h5⟩ := pick_list h3
    exact ⟨b, ⟨h1, h2⟩, xs, h4, h5 i hi⟩
theorem mem_butsL {r : Round} (hB : RoundB r) {free b : Int} : b ∈ butsL r free ↔ buttonR r free (r.hi + 1) b := by
  rw [buttonR_iff hB]
  unfold butsL
  simp only [List.mem_filter, mem_buttonsL, decide_eq_true_eq, and_assoc]
  constructor
  · rintro ⟨h1, h2, h3⟩
    cases h : truthsL r free b with
    | nil => exact absurd h h3
    | cons xs l => exact ⟨h1, h2, fOf xs, _, (mem_truthsL.1 (h ▸ List.mem_cons_self)).2⟩
  · rintro ⟨h1, h2, f, a, h3⟩
    obtain ⟨xs, h4, _⟩ := pick_list h3
    exact ⟨h1, h2, List.ne_nil_of_mem h4⟩
theorem mem_allL {r : Round} (hB : RoundB r) {free a : Int} : a ∈ allL r free ↔ allR r free (r.hi + 1) a := by
  rw [allR_iff hB]
  unfold allL
  simp only [List.mem_flatMap, List.mem_map, mem_buttonsL]
  constructor
  · rintro ⟨b, ⟨h1, h2⟩, xs, hx, rfl⟩
    exact ⟨b, fOf xs, h1, h2, (mem_truthsL.1 hx).2⟩
  · rintro ⟨b, f, h1, h2, h3⟩
    obtain ⟨xs, h4, h5, _⟩ := pick_list h3
    exact ⟨b, ⟨h1, h2⟩, xs, h4, h5.symm⟩
end Go.Proofs.YtbeophjdiddomaaGreatDoor

/- search: what lies in memory while it runs. -/
namespace Go.Proofs.YtbeophjdiddomaaGreatDoor
open Go.RowKit

theorem OutM.other {n ob hb B : Nat} {vals : List Value} {lss : List (List Int)} {W W' : World} {v : Value} {k : Nat} {xs : List Value} {e : TypeId} (h : OutM n ob hb B vals lss W) (ho : W.ownsRow B e 1 v k xs) (he : e ≠ 3) (hg : W.grownBy W' v.ownBlock) : OutM n ob hb B vals lss W' := by
  have hlow : ∀ a : Addr, a.block < B → some a.block ≠ v.ownBlock := fun a ha e => by have := owns_block ho _ e.symm; omega
  have hsl : ∀ j, (slotA n ob hb j).block < B := fun j => by have := h.lt; rcases slotA_block n ob hb j with e | e <;> omega
  refine ⟨h.pool.kept hg (fun i u hu => ?_), h.n2, (frozen_grown hg h.c0 (hlow _ h.lt.1)).1, fun i u hu => ?_, h.lt, h.ne⟩
  · obtain ⟨ys, hy⟩ := h.pool.at hu
    rcases (h.pool.own i u ys hu hy).2 with ⟨rfl, _⟩ | ⟨g, cap, cur, rfl, _, hh, _⟩
    · exact .inl rfl
    · right; intro e2
      rcases ho.2 with ⟨rfl, _⟩ | ⟨g', cap', cur', rfl, _, hh', _⟩
      · simp [Value.ownBlock] at e2
      · have : g = g' := by simpa [Value.ownBlock] using e2
        subst this
        rw [hh] at hh'; cases hh'; exact he rfl
  · obtain ⟨h1, h2⟩ := h.c i u hu
    obtain ⟨h3, h4⟩ := frozen_grown hg h1 (hlow _ (hsl i))
    exact ⟨h3, h4.trans h2⟩

/-- Marks of loops over iterators: their blocks. -/
def mark0 : Option Obj := some (Obj.deferred (some []))
def MarksAt (B : Nat) (ds : List Deferred) (W : World) : Prop := ∃ Ds : List Nat, ds = Ds.map (fun D => { target := .collected D, args := #[] }) ∧ (Ds.Nodup ∧ ∀ D : Nat, D ∈ Ds → B ≤ D) ∧ ∀ D : Nat, D ∈ Ds → W.heap[D]? = mark0
theorem MarksAt.nil (B : Nat) (W : World) : MarksAt B [] W := ⟨[], rfl, ⟨List.nodup_nil, fun D h => by simp at h⟩, fun D h => by simp at h⟩
theorem MarksAt.keep {B : Nat} {ds : List Deferred} {W W' : World} (h : MarksAt B ds W) (k : ∀ D : Nat, W.heap[D]? = mark0 → W'.heap[D]? = mark0) : MarksAt B ds W' := by
  obtain ⟨Ds, h1, h2, h3⟩ := h; exact ⟨Ds, h1, h2, fun D hD => k D (h3 D hD)⟩
theorem MarksAt.ext {B : Nat} {ds : List Deferred} {W W' : World} (h : MarksAt B ds W) (k : Ext W W') : MarksAt B ds W' := h.keep (fun _ hD => (k.block (Array.getElem?_eq_some_iff.1 hD).1).trans hD)
theorem MarksAt.grown {B : Nat} {ds : List Deferred} {W W' : World} {row : Option Nat} (h : MarksAt B ds W) (hg : W.grownBy W' row) (hr : ∀ b, row = some b → W.heap[b]? ≠ mark0) : MarksAt B ds W' :=
  h.keep (fun D hD => (hg.block D (Array.getElem?_eq_some_iff.1 hD).1 (fun e => hr D e.symm hD)).trans hD)
theorem MarksAt.setCell {B : Nat} {ds : List Deferred} {W : World} (h : MarksAt B ds W) {a : Addr} {u v : Value} (hc : W.cell? a = some u) : MarksAt B ds (W.setCell a v) :=
  h.keep (fun D hD => (Below.heap_setCell W a v D (fun e => by
    obtain ⟨o, ho, hi⟩ := cells_of_cell hc
    rw [← e, hD] at ho; cases ho; cases hi)).trans hD)
theorem marks_leave {F : Fence} {n : Nat} {P : Program} {fn : Func} {tmps : Array Value} {R : Ending → World → Prop} {B : Nat} : ∀ {ds : List Deferred} {W : World}, MarksAt B ds W →
    (∀ W', (∀ (k : Nat) (o : Obj), W.heap[k]? = some o → (k < B ∨ ∀ l, o ≠ .deferred l) → W'.heap[k]? = some o) → W'.os = W.os → W'.tape = W.tape → W'.output = W.output → W.heap.size ≤ W'.heap.size → LeavesIn F n P fn tmps R [] .returning W') → LeavesInM F n P fn tmps R ds .returning W := by
  intro ds
  induction ds with
  | nil => intro W _ h; exact h W (fun _ _ hk _ => hk) rfl rfl rfl (Nat.le_refl _)
  | cons d ds ih =>
    rintro W ⟨Ds, h1, h2, h3⟩ h
    cases Ds with
    | nil => simp at h1
    | cons D Ds =>
      simp only [List.map_cons, List.cons.injEq] at h1
      obtain ⟨rfl, rfl⟩ := h1
      have hD := h3 D (by simp)
      have hl := (Array.getElem?_eq_some_iff.1 hD).1
      refine ⟨by simp, .inl ⟨D, _, rfl, run_takeDeferred hD, ?_⟩⟩
      refine ih ⟨Ds, rfl, ⟨(List.nodup_cons.1 h2.1).2, fun E hE => h2.2 E (by simp [hE])⟩, fun E hE => ?_⟩ (fun W' hk a1 a2 a3 a4 => h W' (fun k o hko ho => hk k o ?_ ho) a1 a2 a3 (Nat.le_trans (by simp) a4))
      · rw [World.putObj_heap_other (fun e => by subst e; exact (List.nodup_cons.1 h2.1).1 hE)]; exact h3 E (by simp [hE])
      · rw [World.putObj_heap_other (fun e => by have hB := h2.2 D (by simp); rcases ho with ho | ho; exact absurd ho (by omega); exact ho (some []) (by rw [e, hD] at hko; cases hko; rfl))]; exact hko

/-- What lies in memory between two steps of the search. -/
structure SI (r : Round) (hv : Value) (w : World) (ob hb : Nat) (vals : List Value) (lss : List (List Int)) (ds : List Deferred) (W : World) : Prop where
  ext : Ext w W
  rb : W.heap[w.heap.size]? = some (.cells (r.cells hv).toArray 26)
  fb : W.heap[w.heap.size + 1]? = some (.cells #[.slice none 0 0, .slice none 0 0, .slice none 0 0] 82)
  out : OutM r.houses.length ob hb (ob + 1) vals lss W
  marks : MarksAt w.heap.size ds W
  lo : w.heap.size + 1 < hb ∧ hb < ob
theorem SI.keep {r : Round} {hv : Value} {w : World} {ob hb : Nat} {vals : List Value} {lss : List (List Int)} {ds : List Deferred} {W W' : World} (h : SI r hv w ob hb vals lss ds W) (k : Ext W W') : SI r hv w ob hb vals lss ds W' :=
  ⟨h.ext.trans k, (k.block (Array.getElem?_eq_some_iff.1 h.rb).1).trans h.rb, (k.block (Array.getElem?_eq_some_iff.1 h.fb).1).trans h.fb, h.out.ext k, h.marks.ext k, h.lo⟩
/-- A step on a set of the search's own. -/
theorem SI.set {r : Round} {hv : Value} {w : World} {ob hb : Nat} {vals : List Value} {lss : List (List Int)} {ds : List Deferred} {W W' : World} {b : Nat} (h : SI r hv w ob hb vals lss ds W) (hg : W.grownBy W' (some b)) (hb' : w.heap.size ≤ b)
    (ho : ∃ o : Obj, W.heap[b]? = some o ∧ o.isCells = false ∧ ∀ l, o ≠ .deferred l) : SI r hv w ob hb vals lss ds W' := by
  obtain ⟨o, h1, h2, h3⟩ := ho
  have hne : ∀ (k : Nat) (c : Array Value) (t : TypeId), W.heap[k]? = some (.cells c t) → some k ≠ some b := fun k c t hk e => by
    cases e; rw [h1] at hk; cases hk; cases h2
  exact ⟨h.ext.grown hg (fun k hk => by cases hk; exact hb'), (hg.block _ (Array.getElem?_eq_some_iff.1 h.rb).1 (hne _ _ _ h.rb)).trans h.rb, (hg.block _ (Array.getElem?_eq_some_iff.1 h.fb).1 (hne _ _ _ h.fb)).trans h.fb,
    h.out.kept hg (fun k hk => by cases hk; exact ⟨o, h1, h2⟩), h.marks.grown hg (fun k hk e => by cases hk; rw [h1] at e; cases e; exact h3 _ rfl), h.lo⟩
/-- A row of another type grows. -/
theorem SI.row {r : Round} {hv : Value} {w : World} {ob hb : Nat} {vals : List Value} {lss : List (List Int)} {ds : List Deferred} {W W' : World} {v : Value} {k : Nat} {xs : List Value} {e : TypeId} (h : SI r hv w ob hb vals lss ds W) (ho : W.ownsRow (ob + 1) e 1 v k xs) (he : e ≠ 3) (hg : W.grownBy W' v.ownBlock) : SI r hv w ob hb vals lss ds W' := by
  have hlow : ∀ b, b < ob + 1 → some b ≠ v.ownBlock := fun b ha e => by have := owns_block ho _ e.symm; omega
  have hlo := h.lo
  refine ⟨h.ext.grown hg (fun k hk => by have := owns_block ho k hk; omega), (hg.block _ (Array.getElem?_eq_some_iff.1 h.rb).1 (hlow _ (by omega))).trans h.rb, (hg.block _ (Array.getElem?_eq_some_iff.1 h.fb).1 (hlow _ (by omega))).trans h.fb, h.out.other ho he hg, h.marks.grown hg (fun b hb' hd => ?_), h.lo⟩
  rcases ho.2 with ⟨rfl, _⟩ | ⟨g, cap, cur, rfl, _, hh, _⟩
  · simp [Value.ownBlock] at hb'
  · have : g = b := by simpa [Value.ownBlock] using hb'
    subst this; rw [hh] at hd; cases hd
/-- A number is laid into one of the rows. -/
theorem SI.push {r : Round} {hv : Value} {w : World} {ob hb : Nat} {vals : List Value} {lss : List (List Int)} {ds : List Deferred} {W W1 W4 : World} {i g cap : Nat} {v : Value} {xs : List Int} {x : Int} {t : TypeId} (h : SI r hv w ob hb vals lss ds W) (hx : Ext W W1) (hv' : vals[i]? = some v) (hl : lss[i]? = some xs)
    (own : W4.ownsRow (ob + 1) 3 1 (.slice (some ⟨g, 0, none⟩) (xs.length + 1) cap) (xs.length + 1) (xs.map (.int .i64) ++ [.int .i64 x])) (hg : (W1.alloc (.cells #[.int .i64 x] t)).grownBy W4 v.ownBlock) (hloc : v.ownBlock = some g ∨ g = W1.heap.size + 1) :
    (W4.cell? (slotA r.houses.length ob hb i) = some v ∧ W4.frozen? (slotA r.houses.length ob hb i) = false ∧ W4.cell? ⟨ob, 0, none⟩ = some (.slice (some ⟨hb, 0, none⟩) r.houses.length r.houses.length)) ∧
    SI r hv w ob hb (vals.set i (.slice (some ⟨g, 0, none⟩) (xs.length + 1) cap)) (lss.set i (xs ++ [x])) ds (W4.setCell (slotA r.houses.length ob hb i) (.slice (some ⟨g, 0, none⟩) (xs.length + 1) cap)) := by
  obtain ⟨h1, h2⟩ := h.out.push hx hv' hl own hg hloc
  have hlo := h.lo
  have hrow := h.out.pool.own i v xs hv' hl
  have hx2 : Ext W (W1.alloc (.cells #[.int .i64 x] t)) := hx.alloc _
  have hlow : ∀ b, b < ob + 1 → some b ≠ v.ownBlock := fun b ha e => by have := owns_block hrow _ e.symm; omega
  have hsb : ∀ b, b < hb → b ≠ (slotA r.houses.length ob hb i).block := fun b hb' e => by rcases slotA_block r.houses.length ob hb i with e' | e' <;> omega
  have blk : ∀ (b : Nat) (c : Array Value) (ty : TypeId), b < hb → W.heap[b]? = some (.cells c ty) → (W4.setCell (slotA r.houses.length ob hb i) (.slice (some ⟨g, 0, none⟩) (xs.length + 1) cap)).heap[b]? = some (.cells c ty) := fun b c ty hb' hh => by
    rw [Below.heap_setCell W4 _ _ b (hsb b hb'), hg.block b (by have := (Array.getElem?_eq_some_iff.1 hh).1; have := hx2.size; omega) (hlow b (by omega)), hx2.block (Array.getElem?_eq_some_iff.1 hh).1]; exact hh
  have hE4 : Ext w W4 := (h.ext.trans hx2).grown hg (fun k hk => by have := owns_block hrow k hk; omega)
  refine ⟨h1, hE4.setCell (by rcases slotA_block r.houses.length ob hb i with e | e <;> omega) _, blk _ _ _ (by omega) h.rb, blk _ _ _ (by omega) h.fb, h2, ?_, h.lo⟩
  refine ((h.marks.ext hx2).grown hg (fun b hb' hd => ?_)).setCell h1.1
  rcases hrow.2 with ⟨rfl, _⟩ | ⟨g', cap', cur, rfl, _, hh, _⟩
  · simp [Value.ownBlock] at hb'
  · have : g' = b := by simpa [Value.ownBlock] using hb'
    subst this
    rw [hx2.block (Array.getElem?_eq_some_iff.1 hh).1, hh] at hd; cases hd
end Go.Proofs.YtbeophjdiddomaaGreatDoor

/- search: how it starts and what it returns. -/
namespace Go.Proofs.YtbeophjdiddomaaGreatDoor
open Go.RowKit

theorem rangeLeft_le {W : World} {b r : Nat} {S L : Int → Prop} (h : RangeAt W b r S L) : W.rangeLeft b r ≤ 20001 := by
  obtain ⟨D, left, cnt, ⟨es, clock, since, seen, c0, a1, a2, a3, a4, a5, a6⟩, h2, h3⟩ := h
  unfold World.rangeLeft
  rw [a1, a5]
  have : (leftOf es seen).size ≤ es.size := by unfold leftOf; exact Array.size_filter_le
  simp only; omega

theorem nil_at {n j : Nat} {v : Value} (h : (List.replicate (n + 2) (Value.slice none 0 0))[j]? = some v) : v = .slice none 0 0 := by
  rw [List.getElem?_replicate] at h; split at h <;> simp at h; exact h.symm
theorem nil_at' {n j : Nat} {v : List Int} (h : (List.replicate (n + 2) ([] : List Int))[j]? = some v) : v = [] := by
  rw [List.getElem?_replicate] at h; split at h <;> simp at h; exact h
theorem out_start {base n hb : Nat} {W1 : World} (hown : W1.ownsRow base 80 1 (.slice (some ⟨hb, 0, none⟩) n n) n (madeCells (Value.slice none 0 0).cells (n * 1)).toList) (_hn : 1 ≤ n) :
    OutM n W1.heap.size hb (W1.heap.size + 1) (List.replicate (n + 2) (.slice none 0 0)) (List.replicate (n + 2) []) (W1.alloc (.cells #[.slice (some ⟨hb, 0, none⟩) n n, .slice none 0 0, .slice none 0 0] 82)) := by
  have hlt := (World.ownsRow.lt hown hb rfl).2
  refine ⟨⟨by simp, fun i v xs hv hx => ?_, fun i j u v _ hu hv g hg => ?_⟩, by simp, by go_simp, fun i v hv => ?_, ⟨by omega, by omega⟩, by omega⟩
  · rw [nil_at hv, nil_at' hx]; exact World.ownsRow_nil _ _ _ _
  · rw [nil_at hu] at hg; simp [Value.ownBlock] at hg
  · have hi : i < n + 2 := by have := (List.getElem?_eq_some_iff.1 hv).1; simpa using this
    rw [nil_at hv]
    unfold slotA
    split
    · rename_i h
      have h1 := hown.cellAt i (by omega)
      have h2 := hown.frozenAt i
      have hc : (madeCells (Value.slice none 0 0).cells (n * 1)).toList[i]? = some (.slice none 0 0) := by
        simp [madeCells, Value.cells, h, Nat.mod_one]
      have hX : Ext W1 (W1.alloc (.cells #[.slice (some ⟨hb, 0, none⟩) n n, .slice none 0 0, .slice none 0 0] 82)) := (Ext.refl _).alloc _
      exact ⟨hX.cell (h1.trans hc), (hX.frozen hlt).trans h2⟩
    · split
      · exact ⟨by go_simp, by go_simp⟩
      · exact ⟨by go_simp, by go_simp⟩
theorem col_start (n : Nat) : Col n (List.replicate (n + 2) []) (fun _ _ => False) (fun _ => False) (fun _ => False) :=
  ⟨fun i hi => ⟨[], by rw [List.getElem?_replicate]; simp; omega, fun m => by simp⟩, ⟨[], by rw [List.getElem?_replicate]; simp, fun m => by simp⟩, ⟨[], by rw [List.getElem?_replicate]; simp, fun m => by simp⟩⟩
theorem len_start (n : Nat) : LenLe (List.replicate (n + 2) []) 0 := fun i xs hx => by rw [nil_at' hx]; simp

/-- What search returns, read off the memory. -/
def FoundAt (B : Nat) (W : World) (v : Value) (n : Nat) (lss : List (List Int)) : Prop := ∃ (hb : Nat) (vals : List Value), (vals.length = n + 2 ∧ B ≤ hb ∧ ∀ u, u ∈ vals → ∀ g, u.ownBlock = some g → B ≤ g) ∧ v = .agg #[.slice (some ⟨hb, 0, none⟩) n n, vals.getD n undef, vals.getD (n + 1) undef] ∧ n ≤ maxLen ∧
  (∀ i, i < n → W.cell? ⟨hb, i, none⟩ = vals[i]?) ∧ ∀ (i : Nat) (u : Value) (xs : List Int), vals[i]? = some u → lss[i]? = some xs → IntsAt W u xs
theorem FoundAt.ext {B : Nat} {W W' : World} {v : Value} {n : Nat} {lss : List (List Int)} (h : FoundAt B W v n lss) (k : Ext W W') : FoundAt B W' v n lss := by
  obtain ⟨hb, vals, h1, h2, h3, h4, h5⟩ := h
  refine ⟨hb, vals, h1, h2, h3, fun i hi => ?_, fun i u xs hu hx => (h5 i u xs hu hx).ext k⟩
  obtain ⟨u, hu⟩ : ∃ u, vals[i]? = some u := ⟨_, List.getElem?_eq_getElem (by have := h1.1; omega)⟩
  rw [hu]; exact k.cell ((h4 i hi).trans hu)
theorem OutM.len {n ob hb B : Nat} {vals : List Value} {lss : List (List Int)} {W : World} (h : OutM n ob hb B vals lss W) : lss.length = n + 2 := by rw [← h.pool.len]; exact h.n2
theorem OutM.found {n ob hb B B0 : Nat} {vals : List Value} {lss : List (List Int)} {W : World} (h : OutM n ob hb B vals lss W) (hn : n ≤ maxLen) (hb0 : B0 ≤ hb) (hB0 : B0 ≤ B) : FoundAt B0 W (.agg #[.slice (some ⟨hb, 0, none⟩) n n, vals.getD n undef, vals.getD (n + 1) undef]) n lss := by
  have hl := h.n2
  refine ⟨hb, vals, ⟨h.n2, hb0, fun u hu g hg => ?_⟩, rfl, hn, fun i hi => ?_, fun i u xs hu hx => IntsAt.of_owns (h.pool.own i u xs hu hx)⟩
  · obtain ⟨i, hi⟩ := List.mem_iff_getElem?.1 hu
    obtain ⟨xs, hx⟩ := h.pool.at hi
    exact Nat.le_trans hB0 (owns_block (h.pool.own i u xs hi hx) g hg)
  obtain ⟨u, hu⟩ : ∃ u, vals[i]? = some u := ⟨_, List.getElem?_eq_getElem (by omega)⟩
  have := (h.c i u hu).1
  unfold slotA at this; rw [if_pos hi] at this; rw [this, hu]
/-- The cells of the box found. -/
theorem OutM.cells {n ob hb B : Nat} {vals : List Value} {lss : List (List Int)} {W : World} (h : OutM n ob hb B vals lss W) :
    W.cell? ⟨ob, 0, none⟩ = some (.slice (some ⟨hb, 0, none⟩) n n) ∧ W.cell? ⟨ob, 1, none⟩ = some (vals.getD n undef) ∧ W.cell? ⟨ob, 2, none⟩ = some (vals.getD (n + 1) undef) := by
  have hl := h.n2
  have h1 := (h.c n _ (List.getElem?_eq_getElem (show n < vals.length by omega))).1
  have h2 := (h.c (n + 1) _ (List.getElem?_eq_getElem (show n + 1 < vals.length by omega))).1
  unfold slotA at h1 h2
  rw [if_neg (by omega), if_pos rfl] at h1
  rw [if_neg (by omega), if_neg (by omega)] at h2
  exact ⟨h.c0, by rw [h1]; simp [List.getD, show n < vals.length by omega], by rw [h2]; simp [List.getD, show n + 1 < vals.length by omega]⟩

theorem two_new (w : World) (X Y : Obj) : ((w.alloc X).alloc Y).heap[w.heap.size]? = some X ∧ ((w.alloc X).alloc Y).heap[w.heap.size + 1]? = some Y :=
  ⟨(Below.heap_alloc _ _ _ (by simp)).trans (World.alloc_heap_new w _), by have := World.alloc_heap_new (w.alloc X) Y; rwa [World.size_alloc] at this⟩
theorem SI.r {r : Round} {hv : Value} {w : World} {ob hb : Nat} {vals : List Value} {lss : List (List Int)} {ds : List Deferred} {W : World} (h : SI r hv w ob hb vals lss ds W) :
    W.cell? ⟨w.heap.size, 0, none⟩ = some (.int .i64 r.per) ∧ W.cell? ⟨w.heap.size, 1, none⟩ = some (.int .i64 r.lo) ∧ W.cell? ⟨w.heap.size, 2, none⟩ = some (.int .i64 r.hi) ∧ W.cell? ⟨w.heap.size, 3, none⟩ = some (.int .i64 r.card) ∧ W.cell? ⟨w.heap.size, 4, none⟩ = some (.int .i64 r.slack) ∧
    W.cell? ⟨w.heap.size, 5, none⟩ = some hv ∧ W.cell? ⟨w.heap.size, 6, none⟩ = some (.int .i64 r.all) ∧ W.cell? ⟨w.heap.size, 7, none⟩ = some (.int .i64 r.off) := by
  have h0 := h.rb
  simp [World.cell?, h0, Round.cells]

/-! ### The whole state at the head of the first loop -/
def perB : Nat := 4 * (20001 * 202) + 1
structure SrchI (r : Round) (hv : Value) (w : World) (ob hb : Nat) (free b : Int) (vals : List Value) (lss : List (List Int)) (ds : List Deferred) (W : World) : Prop where
  si : SI r hv w ob hb vals lss ds W
  col : Col r.houses.length lss (houseR r free b) (allR r free b) (buttonR r free b)
  len : LenLe lss ((b - r.lo).toNat * perB)
theorem houseR_lo {r : Round} {free : Int} (i : Nat) (m : Int) : ¬ houseR r free r.lo i m := by rintro ⟨b, h1, h2, _⟩; omega
theorem allR_lo {r : Round} {free : Int} (m : Int) : ¬ allR r free r.lo m := by rintro ⟨b, h1, h2, _⟩; omega
theorem buttonR_lo {r : Round} {free : Int} (m : Int) : ¬ buttonR r free r.lo m := by rintro ⟨h1, h2, _⟩; omega
theorem si_start {r : Round} {hv : Value} {w W0 W1 : World} {hb : Nat} {free : Int} (hx : Ext w W0) (hr : W0.heap[w.heap.size]? = some (.cells (r.cells hv).toArray 26)) (hf : W0.heap[w.heap.size + 1]? = some (.cells #[.slice none 0 0, .slice none 0 0, .slice none 0 0] 82))
    (hg : W0.grownBy W1 none) (hb0 : w.heap.size + 1 < hb) (hown : W1.ownsRow hb 80 1 (.slice (some ⟨hb, 0, none⟩) r.houses.length r.houses.length) r.houses.length (madeCells (Value.slice none 0 0).cells (r.houses.length * 1)).toList) (hn : 1 ≤ r.houses.length) :
    SrchI r hv w W1.heap.size hb free r.lo (List.replicate (r.houses.length + 2) (.slice none 0 0)) (List.replicate (r.houses.length + 2) []) [] (W1.alloc (.cells #[.slice (some ⟨hb, 0, none⟩) r.houses.length r.houses.length, .slice none 0 0, .slice none 0 0] 82)) := by
  have hx1 : Ext W0 W1 := (Ext.refl W0).grown hg (fun k hk => by cases hk)
  have hlt := (World.ownsRow.lt hown hb rfl).2
  refine ⟨⟨(hx.trans hx1).alloc _, ?_, ?_, out_start hown hn, MarksAt.nil _ _, ⟨hb0, hlt⟩⟩, (col_start _).congr (fun i m _ => ?_) (fun m => ?_) (fun m => ?_), by rw [Int.sub_self]; simpa using len_start _⟩
  · exact (Below.heap_alloc _ _ _ (by omega)).trans ((hx1.block (Array.getElem?_eq_some_iff.1 hr).1).trans hr)
  · exact (Below.heap_alloc _ _ _ (by omega)).trans ((hx1.block (Array.getElem?_eq_some_iff.1 hf).1).trans hf)
  · exact ⟨fun h => h.elim, fun h => (houseR_lo i m h).elim⟩
  · exact ⟨fun h => h.elim, fun h => (allR_lo m h).elim⟩
  · exact ⟨fun h => h.elim, fun h => (buttonR_lo m h).elim⟩
def SearchRes (r : Round) (free : Int) (w : World) (e : Ending) (w' : World) : Prop :=
  ∃ v lss, e = .returned v ∧ Ext w w' ∧ lss.length = r.houses.length + 2 ∧ FoundAt w.heap.size w' v r.houses.length lss ∧ Col r.houses.length lss (houseR r free (r.hi + 1)) (allR r free (r.hi + 1)) (buttonR r free (r.hi + 1))
theorem info_numbers : (Tryz.prog.info? 80).map (fun i => (i.zero, i.size, i.bytes)) = some (some (.slice none 0 0), 1, 24) := by kernel_rfl
end Go.Proofs.YtbeophjdiddomaaGreatDoor

/- search: what each house can have brought; the round over one house. -/
namespace Go.Proofs.YtbeophjdiddomaaGreatDoor
open Go.RowKit

theorem way_good {r : Round} {button : Int} {h : House} {free : Bool} {x : Int × Int} (hr : RoundB r) (hb : badHouse h = false) (hx : x ∈ waysOf r button h free) :
    (0 ≤ x.1 ∧ x.1 ≤ 60) ∧ (-1000000 ≤ x.2 ∧ x.2 ≤ 1000000) ∧ 0 ≤ nOf r x.1 x.2 ∧ nOf r x.1 x.2 ≤ 20000 := by
  have hbd := badHouse_iff.1 hb
  have hp1 := hr.p1
  have hp2 := hr.p2
  unfold waysOf at hx
  rw [List.mem_flatMap] at hx
  obtain ⟨f, hf, hx⟩ := hx
  rw [List.mem_filter] at hx
  obtain ⟨hx, _⟩ := hx
  unfold rowOf at hx
  rw [List.mem_map] at hx
  obtain ⟨j, hj, rfl⟩ := hx
  rw [List.mem_range] at hf hj
  have e1 : 0 ≤ r.per * (f : Int) := Int.mul_nonneg (by omega) (by omega)
  have e2 : r.per * (f : Int) ≤ 36 * 60 := Int.mul_le_mul hp2 (by omega) (by omega) (by omega)
  unfold nOf
  simp only
  omega
/-- The numbers of the first k ways. -/
def firstS (r : Round) (button : Int) (h : House) (free : Bool) (k : Nat) : Int → Prop := fun n => ∃ (j : Nat) (x : Int × Int), j < k ∧ (waysOf r button h free)[j]? = some x ∧ n = nOf r x.1 x.2
theorem firstS_zero {r : Round} {button : Int} {h : House} {free : Bool} (n : Int) : False ↔ firstS r button h free 0 n := ⟨fun h => h.elim, fun ⟨j, x, hj, _⟩ => by omega⟩
theorem firstS_succ {r : Round} {button : Int} {h : House} {free : Bool} {k : Nat} {x : Int × Int} (hx : (waysOf r button h free)[k]? = some x) (n : Int) : (firstS r button h free k n ∨ n = nOf r x.1 x.2) ↔ firstS r button h free (k + 1) n := by
  unfold firstS; constructor
  · rintro (⟨j, y, h1, h2, h3⟩ | rfl)
    · exact ⟨j, y, by omega, h2, h3⟩
    · exact ⟨k, x, by omega, hx, rfl⟩
  · rintro ⟨j, y, h1, h2, h3⟩
    by_cases e : j = k
    · subst e; rw [hx] at h2; cases h2; exact .inr h3
    · exact .inl ⟨j, y, by omega, h2, h3⟩
theorem firstS_all {r : Round} {button : Int} {free : Int} {i : Nat} {h : House} (hh : r.houses[i]? = some h) (n : Int) : firstS r button h (decide ((i : Int) = free)) (waysOf r button h (decide ((i : Int) = free))).length n ↔ ownS r free button i n := by
  unfold firstS ownS; constructor
  · rintro ⟨j, x, h1, h2, h3⟩; exact ⟨h, hh, x, List.mem_of_getElem? h2, h3⟩
  · rintro ⟨h', h1, x, h2, h3⟩
    rw [hh] at h1; cases h1
    obtain ⟨j, hj⟩ := List.mem_iff_getElem?.1 h2
    exact ⟨j, x, (List.getElem?_eq_some_iff.1 hj).1, hj, h3⟩

/-- What lies in memory while the ways are gone through: sb is the set. -/
structure WayI (r : Round) (button : Int) (h : House) (free : Bool) (sb : Nat) (W0 : World) (k : Nat) (W : World) : Prop where
  touch : Touch (fun i => i = sb) W0 W
  set : SetAt W sb (firstS r button h free k)
theorem WayI.quiet {r : Round} {button : Int} {h : House} {free : Bool} {sb : Nat} {W0 : World} {k n : Nat} {A B : World} (hi : WayI r button h free sb W0 k A) (q : Quiet n A B) (hn : W0.heap.size ≤ n) (hs : sb < n) : WayI r button h free sb W0 k B :=
  ⟨⟨q.os.trans hi.touch.os, q.tape.trans hi.touch.tape, q.output.trans hi.touch.output, Nat.le_trans hi.touch.size q.size, fun j o h1 h2 => q.keep j o (hi.touch.keep j o h1 h2) (.inl (by have := (Array.getElem?_eq_some_iff.1 h1).1; omega))⟩,
   hi.set.block (by
    have hl := hi.set.lt
    have ho := Array.getElem?_eq_getElem hl
    rw [ho]; exact q.keep sb _ ho (.inl hs))⟩

/-- The sets of the first k houses, in a slice. -/
structure OwnI (r : Round) (free b : Int) (B : Nat) (ov : Value) (k : Nat) (bs : List Nat) (W : World) : Prop where
  own : W.ownsRow B 130 1 ov k (bs.map mapV)
  len : bs.length = k
  sets : ∀ (i s : Nat), bs[i]? = some s → SetAt W s (ownS r free b i)
theorem OwnI.ext {r : Round} {free b : Int} {B : Nat} {ov : Value} {k : Nat} {bs : List Nat} {W W' : World} (h : OwnI r free b B ov k bs W) (hx : Ext W W') : OwnI r free b B ov k bs W' :=
  ⟨owns_ext h.own hx, h.len, fun i s hs => (h.sets i s hs).ext hx⟩
theorem OwnI.nil (r : Round) (free b : Int) (B : Nat) (W : World) : OwnI r free b B (.slice none 0 0) 0 [] W := ⟨World.ownsRow_nil _ _ _ _, rfl, fun i s h => by simp at h⟩
theorem OwnI.push {r : Round} {free b : Int} {B : Nat} {ov : Value} {k : Nat} {bs : List Nat} {W W2 W4 : World} {s2 g cap : Nat} (h : OwnI r free b B ov k bs W) (hx : Ext W W2) (hs : SetAt W2 s2 (ownS r free b k))
    (hown : W4.ownsRow B 130 1 (.slice (some ⟨g, 0, none⟩) (k + 1) cap) (k + 1) (bs.map mapV ++ [.map (some s2)])) (hg : (W2.alloc (.cells #[.map (some s2)] 130)).grownBy W4 ov.ownBlock) : OwnI r free b B (.slice (some ⟨g, 0, none⟩) (k + 1) cap) (k + 1) (bs ++ [s2]) W4 := by
  have ho2 := owns_ext h.own hx
  have key : ∀ (c : Nat) (S : Int → Prop), SetAt W2 c S → SetAt W4 c S := fun c S hc =>
    (hc.ext ((Ext.refl _).alloc _)).kept hg (set_ne_row hc ho2)
  refine ⟨by rw [List.map_append]; exact hown, by simp [h.len], fun i c hc => ?_⟩
  rcases Nat.lt_or_ge i k with hi | hi
  · rw [List.getElem?_append_left (by rw [h.len]; exact hi)] at hc
    exact key c _ ((h.sets i c hc).ext hx)
  · have : i = k := by
      have := (List.getElem?_eq_some_iff.1 hc).1
      rw [List.length_append, h.len, List.length_singleton] at this; omega
    subst this
    rw [List.getElem?_append_right (by rw [h.len]; omega), h.len] at hc
    simp at hc; subst hc
    exact key _ _ hs
theorem OwnI.sets_all {r : Round} {free b : Int} {B : Nat} {ov : Value} {bs : List Nat} {W : World} (h : OwnI r free b B ov r.houses.length bs W) : SetsAt W ov (ownSs r free b) := by
  have hl : (ownSs r free b).length = r.houses.length := by simp [ownSs]
  refine ⟨bs, by rw [hl, h.len], by rw [hl]; exact RowAt.of_owns h.own, fun i s hs => ?_⟩
  have hi : i < r.houses.length := by have := (List.getElem?_eq_some_iff.1 hs).1; rw [h.len] at this; exact this
  rw [ownSs_at hi]; exact h.sets i s hs
/-- A box of one weight. -/
def WeighBox (r : Round) (hv : Value) (b : Int) (wb : Nat) (W : World) : Prop := W.heap[wb]? = some (.cells #[.int .i64 r.per, .int .i64 r.lo, .int .i64 r.hi, .int .i64 r.card, .int .i64 r.slack, hv, .int .i64 r.all, .int .i64 r.off, .int .i64 b] 89)
theorem WeighBox.ext {r : Round} {hv : Value} {b : Int} {wb : Nat} {W W' : World} (h : WeighBox r hv b wb W) (k : Ext W W') : WeighBox r hv b wb W' := (k.block (Array.getElem?_eq_some_iff.1 h).1).trans h
theorem WeighBox.r {r : Round} {hv : Value} {b : Int} {wb : Nat} {W : World} (h : WeighBox r hv b wb W) :
    W.cell? ⟨wb, 0, none⟩ = some (.int .i64 r.per) ∧ W.cell? ⟨wb, 1, none⟩ = some (.int .i64 r.lo) ∧ W.cell? ⟨wb, 2, none⟩ = some (.int .i64 r.hi) ∧ W.cell? ⟨wb, 3, none⟩ = some (.int .i64 r.card) ∧ W.cell? ⟨wb, 4, none⟩ = some (.int .i64 r.slack) ∧
    W.cell? ⟨wb, 5, none⟩ = some hv ∧ W.cell? ⟨wb, 6, none⟩ = some (.int .i64 r.all) ∧ W.cell? ⟨wb, 7, none⟩ = some (.int .i64 r.off) ∧ W.cell? ⟨wb, 8, none⟩ = some (.int .i64 b) := by
  simp [World.cell?, show W.heap[wb]? = _ from h]
theorem WeighBox.row {r : Round} {hv : Value} {b : Int} {wb : Nat} {W W' : World} {v : Value} {B k : Nat} {xs : List Value} {e : TypeId} (h : WeighBox r hv b wb W) (ho : W.ownsRow B e 1 v k xs) (he : e ≠ 89) (hg : W.grownBy W' v.ownBlock) : WeighBox r hv b wb W' := by
  refine (hg.block _ (Array.getElem?_eq_some_iff.1 h).1 (fun e2 => ?_)).trans h
  rcases ho.2 with ⟨rfl, _⟩ | ⟨g, cap, cur, rfl, _, hh, _⟩
  · simp [Value.ownBlock] at e2
  · have : wb = g := by simpa [Value.ownBlock] using e2
    subst this
    rw [show W.heap[wb]? = _ from h] at hh; cases hh; exact he rfl
theorem WeighBox.grown {r : Round} {hv : Value} {b : Int} {wb : Nat} {W W' : World} {sb : Nat} (h : WeighBox r hv b wb W) (hg : W.grownBy W' (some sb)) (hn : wb ≠ sb) : WeighBox r hv b wb W' :=
  (hg.block _ (Array.getElem?_eq_some_iff.1 h).1 (fun e => hn (by simpa using e))).trans h
theorem Touch.grown1 {sb : Nat} {A B : World} (h : Touch (fun i => i = sb) A B) : A.grownBy B (some sb) :=
  ⟨h.os, h.tape, h.output, h.size, fun k hk hn => by
    have ho := Array.getElem?_eq_getElem hk
    rw [ho]; exact h.keep k _ ho (fun e => hn (by rw [e]))⟩
theorem MarksAt.cons {B : Nat} {ds : List Deferred} {W W' : World} {D : Nat} (h : MarksAt B ds W) (hB : B ≤ W.heap.size) (k : ∀ D : Nat, W.heap[D]? = mark0 → W'.heap[D]? = mark0) (hD : W.heap.size ≤ D) (hd : W'.heap[D]? = mark0) : MarksAt B ({ target := .collected D, args := #[] } :: ds) W' := by
  obtain ⟨Ds, h1, h2, h3⟩ := h
  refine ⟨D :: Ds, by rw [h1]; rfl, ⟨List.nodup_cons.2 ⟨fun hm => ?_, h2.1⟩, fun E hE => ?_⟩, fun E hE => ?_⟩
  · have := (Array.getElem?_eq_some_iff.1 (h3 D hm)).1; omega
  · rcases List.mem_cons.1 hE with rfl | hE
    · omega
    · exact h2.2 E hE
  · rcases List.mem_cons.1 hE with rfl | hE
    · exact hd
    · exact k E (h3 E hE)
/-- All that a house's round changes, but for the slice own. -/
theorem SI.ways {r : Round} {hv : Value} {w : World} {ob hb : Nat} {vals : List Value} {lss : List (List Int)} {ds : List Deferred} {Wq W1 W : World} {sb D k : Nat} {button : Int} {h : House} {free : Bool} (hs : SI r hv w ob hb vals lss ds Wq) (hx : Ext Wq W1) (hsb : Wq.heap.size ≤ sb)
    (hm : SetAt W1 sb (fun _ => False)) (hi : WayI r button h free sb W1 k W) (hD : W1.heap.size ≤ D) (hd : W.heap[D]? = some (.deferred (some []))) : SI r hv w ob hb vals lss ({ target := .collected D, args := #[] } :: ds) W := by
  have hg := hi.touch.grown1
  have hz := hs.ext.size
  obtain ⟨D0, ⟨es, clock, hb0, _⟩, _⟩ := hm
  have h2 := (hs.keep hx).set hg (by omega) ⟨_, hb0, rfl, fun l e => by cases e⟩
  refine ⟨h2.ext, h2.rb, h2.fb, h2.out, ?_, h2.lo⟩
  refine hs.marks.cons hz (fun E hE => ?_) (by have := hx.size; omega) hd
  have hl := (Array.getElem?_eq_some_iff.1 hE).1
  exact (hg.block E (by have := hx.size; omega) (fun e => by have : E = sb := by simpa using e
                                                             omega)).trans ((hx.block hl).trans hE)
end Go.Proofs.YtbeophjdiddomaaGreatDoor

/- search: what its last loops keep: sets, slices of sets, iterators. -/
namespace Go.Proofs.YtbeophjdiddomaaGreatDoor
open Go.RowKit

/-- All that is no cell, and all slices of sets from B on, lie as they were. -/
def NC (B : Nat) (W W' : World) : Prop := ∀ (k : Nat) (o : Obj), W.heap[k]? = some o → (o.isCells = false ∨ (B ≤ k ∧ ∃ c f, o = .cells c 130 f)) → W'.heap[k]? = some o
theorem NC.refl (B : Nat) (W : World) : NC B W W := fun _ _ h _ => h
theorem NC.trans {B : Nat} {W1 W2 W3 : World} (h : NC B W1 W2) (k : NC B W2 W3) : NC B W1 W3 := fun i o ho hc => k i o (h i o ho hc) hc
theorem NC.of_ext {B : Nat} {W W' : World} (h : Ext W W') : NC B W W' := fun _ _ ho _ => (h.block (Array.getElem?_eq_some_iff.1 ho).1).trans ho
theorem NC.row {B base k : Nat} {W W' : World} {v : Value} {xs : List Value} (ho : W.ownsRow base 3 1 v k xs) (hg : W.grownBy W' v.ownBlock) : NC B W W' := fun i o hi hc => by
  refine (hg.block i (Array.getElem?_eq_some_iff.1 hi).1 (fun e => ?_)).trans hi
  rcases ho.2 with ⟨rfl, _⟩ | ⟨g, cap, cur, rfl, _, hh, _⟩
  · simp [Value.ownBlock] at e
  · have : i = g := by simpa [Value.ownBlock] using e
    subst this
    rw [hh] at hi; cases hi
    rcases hc with hc | ⟨_, c, f, hc⟩
    · cases hc
    · simp at hc
theorem NC.setCell {B : Nat} {W : World} {a : Addr} {u v : Value} (hc : W.cell? a = some u) (ha : a.block < B) : NC B W (W.setCell a v) := fun i o hi hk => by
  refine (Below.heap_setCell W a v i (fun e => ?_)).trans hi
  obtain ⟨o', ho, hi'⟩ := cells_of_cell hc
  rcases hk with hk | ⟨hk, _⟩
  · rw [← e, hi] at ho; cases ho; rw [hk] at hi'; cases hi'
  · omega
/-- A slice of sets of one's own. -/
structure SetsOwn (F : Nat → Int → Prop) (B : Nat) (v : Value) (n : Nat) (bs : List Nat) (W : World) : Prop where
  own : W.ownsRow B 130 1 v n (bs.map mapV)
  len : bs.length = n
  sets : ∀ (i s : Nat), bs[i]? = some s → SetAt W s (F i)
theorem SetAt.nc {B : Nat} {W W' : World} {b : Nat} {S : Int → Prop} (h : SetAt W b S) (k : NC B W W') : SetAt W' b S := by
  obtain ⟨o, h1, h2⟩ := h.obj
  exact h.block ((k b o h1 (.inl h2)).trans h1.symm)
theorem SetsOwn.nc {F : Nat → Int → Prop} {B n : Nat} {v : Value} {bs : List Nat} {W W' : World} (h : SetsOwn F B v n bs W) (k : NC B W W') : SetsOwn F B v n bs W' := by
  refine ⟨⟨h.own.1, ?_⟩, h.len, fun i s hs => (h.sets i s hs).nc k⟩
  rcases h.own.2 with h1 | ⟨g, cap, cur, h1, h2, h3, h4⟩
  · exact .inl h1
  · exact .inr ⟨g, cap, cur, h1, h2, k g _ h3 (.inr ⟨h2, _, _, rfl⟩), h4⟩
theorem RangeAt.nc {B : Nat} {W W' : World} {b r : Nat} {S L : Int → Prop} (h : RangeAt W b r S L) (k : NC B W W') : RangeAt W' b r S L := by
  obtain ⟨o, h1, h2⟩ := h.set.obj
  obtain ⟨o', h3, h4⟩ := h.iter
  exact h.block ((k b o h1 (.inl h2)).trans h1.symm) ((k r o' h3 (.inl h4)).trans h3.symm)
theorem RangeAt.left_nc {B : Nat} {W W' : World} {b r : Nat} {S L : Int → Prop} (h : RangeAt W b r S L) (k : NC B W W') : W'.rangeLeft b r = W.rangeLeft b r := by
  obtain ⟨o, h1, h2⟩ := h.set.obj
  obtain ⟨o', h3, h4⟩ := h.iter
  exact rangeLeft_block ((k b o h1 (.inl h2)).trans h1.symm) ((k r o' h3 (.inl h4)).trans h3.symm)
theorem RangeAt.mapIter {W : World} {b r : Nat} {S L : Int → Prop} (h : RangeAt W b r S L) : ∃ x y z u, W.heap[r]? = some (.mapIter x y z u) := by
  obtain ⟨D, left, cnt, ⟨es, clock, since, seen, c0, a1, a2, a3, a4, a5, a6⟩, h2, h3⟩ := h
  exact ⟨_, _, _, _, a5⟩
theorem SetAt.map {W : World} {b : Nat} {S : Int → Prop} (h : SetAt W b S) : ∃ x y, W.heap[b]? = some (.map x y) := by
  obtain ⟨D, ⟨es, clock, hb, _⟩, _⟩ := h; exact ⟨_, _, hb⟩
/-- A step of an iterator. -/
theorem SetsOwn.step {F : Nat → Int → Prop} {B n : Nat} {v : Value} {bs : List Nat} {W W' : World} {b r : Nat} {S L : Int → Prop} (h : SetsOwn F B v n bs W) (hr : RangeAt W b r S L) (hg : W.grownBy W' (some r)) : SetsOwn F B v n bs W' := by
  obtain ⟨x, y, z, u, hi⟩ := hr.mapIter
  refine ⟨h.own.kept hg ?_, h.len, fun i s hs => (h.sets i s hs).kept hg (fun e => ?_)⟩
  · rcases h.own.2 with ⟨rfl, _⟩ | ⟨g, cap, cur, rfl, h2, h3, h4⟩
    · exact .inl rfl
    · refine .inr (fun e => ?_)
      have : g = r := by simpa [Value.ownBlock] using e
      subst this; rw [hi] at h3; cases h3
  · obtain ⟨c, d, hm⟩ := (h.sets i s hs).map
    have : s = r := by simpa using e
    subst this; rw [hi] at hm; cases hm
theorem SI.step {r : Round} {hv : Value} {w : World} {ob hb : Nat} {vals : List Value} {lss : List (List Int)} {ds : List Deferred} {W W' : World} {b q : Nat} {S L : Int → Prop} (h : SI r hv w ob hb vals lss ds W) (hr : RangeAt W b q S L) (hq : w.heap.size ≤ q) (hg : W.grownBy W' (some q)) : SI r hv w ob hb vals lss ds W' := by
  obtain ⟨x, y, z, u, hi⟩ := hr.mapIter
  exact h.set hg hq ⟨_, hi, rfl, fun l e => by cases e⟩
theorem SI.push_nc {r : Round} {hv : Value} {w : World} {ob hb : Nat} {vals : List Value} {lss : List (List Int)} {ds : List Deferred} {W W1 W4 : World} {i g cap : Nat} {v : Value} {xs : List Int} {x : Int} {t : TypeId} (h : SI r hv w ob hb vals lss ds W) (hx : Ext W W1) (hv' : vals[i]? = some v) (hl : lss[i]? = some xs)
    (own : W4.ownsRow (ob + 1) 3 1 (.slice (some ⟨g, 0, none⟩) (xs.length + 1) cap) (xs.length + 1) (xs.map (.int .i64) ++ [.int .i64 x])) (hg : (W1.alloc (.cells #[.int .i64 x] t)).grownBy W4 v.ownBlock) (hloc : v.ownBlock = some g ∨ g = W1.heap.size + 1) :
    NC (ob + 1) W (W4.setCell (slotA r.houses.length ob hb i) (.slice (some ⟨g, 0, none⟩) (xs.length + 1) cap)) := by
  have hx2 : Ext W (W1.alloc (.cells #[.int .i64 x] t)) := hx.alloc _
  have hrow := h.out.pool.own i v xs hv' hl
  have hp := (h.push hx hv' hl own hg hloc).1.1
  have hlo := h.lo
  exact ((NC.of_ext hx2).trans (NC.row (owns_ext hrow hx2) hg)).trans (NC.setCell hp (by rcases slotA_block r.houses.length ob hb i with e | e <;> omega))
/-- The cells that a walk wants to see. -/
theorem SI.f {r : Round} {hv : Value} {w : World} {ob hb : Nat} {vals : List Value} {lss : List (List Int)} {ds : List Deferred} {W : World} (h : SI r hv w ob hb vals lss ds W) :
    W.cell? ⟨w.heap.size + 1, 0, none⟩ = some (.slice none 0 0) ∧ W.cell? ⟨w.heap.size + 1, 1, none⟩ = some (.slice none 0 0) ∧ W.cell? ⟨w.heap.size + 1, 2, none⟩ = some (.slice none 0 0) := by
  have h0 := h.fb
  simp [World.cell?, h0]
theorem SetsOwn.cell {F : Nat → Int → Prop} {B n : Nat} {v : Value} {bs : List Nat} {W : World} (h : SetsOwn F B v n bs W) {i : Nat} (hi : i < n) : ∃ g cap s, v = .slice (some ⟨g, 0, none⟩) n cap ∧ n ≤ cap ∧ cap ≤ maxLen ∧ W.cell? ⟨g, i, none⟩ = some (.map (some s)) ∧ SetAt W s (F i) := by
  have hl := h.len
  rcases h.own.2 with ⟨rfl, h0⟩ | ⟨g, cap, cur, rfl, h2, h3, h4, h5, h6, h7⟩
  · omega
  · have hs : bs[i]? = some (bs[i]'(by omega)) := List.getElem?_eq_getElem (by omega)
    refine ⟨g, cap, bs[i]'(by omega), rfl, h4, h5, ?_, h.sets i _ hs⟩
    rw [h.own.cellAt i (by omega), List.getElem?_map, hs]; rfl
end Go.Proofs.YtbeophjdiddomaaGreatDoor

/- search: the state of its last loops. -/
namespace Go.Proofs.YtbeophjdiddomaaGreatDoor
open Go.RowKit

structure SrchJ (r : Round) (hv : Value) (w : World) (ob hb : Nat) (free b : Int) (ds : List Deferred) (H : Nat → Int → Prop) (A : Int → Prop) (N : Nat) (t : Bool) (M : Prop) (ov rv : Value) (bs1 bs2 : List Nat) (vals : List Value) (lss : List (List Int)) (W : World) : Prop where
  si : SI r hv w ob hb vals lss ds W
  col : Col r.houses.length lss H A (buttonR r free b)
  len : LenLe lss N
  met : t = true ↔ M
  own : SetsOwn (ownS r free b) (ob + 1) ov r.houses.length bs1 W
  rest : SetsOwn (otherS (ownSs r free b) (r.all + r.off)) (ob + 1) rv r.houses.length bs2 W
section
variable {r : Round} {hv : Value} {w : World} {ob hb : Nat} {free b : Int} {ds : List Deferred} {H H' : Nat → Int → Prop} {A A' : Int → Prop} {N N' : Nat} {t t' : Bool} {M M' : Prop} {ov rv : Value} {bs1 bs2 : List Nat} {vals : List Value} {lss : List (List Int)} {W W' W1 W4 : World}
theorem SrchJ.ext (h : SrchJ r hv w ob hb free b ds H A N t M ov rv bs1 bs2 vals lss W) (hx : Ext W W') : SrchJ r hv w ob hb free b ds H A N t M ov rv bs1 bs2 vals lss W' :=
  ⟨h.si.keep hx, h.col, h.len, h.met, h.own.nc (NC.of_ext hx), h.rest.nc (NC.of_ext hx)⟩
theorem SrchJ.step {sb q : Nat} {S L : Int → Prop} (h : SrchJ r hv w ob hb free b ds H A N t M ov rv bs1 bs2 vals lss W) (hr : RangeAt W sb q S L) (hq : w.heap.size ≤ q) (hg : W.grownBy W' (some q)) : SrchJ r hv w ob hb free b ds H A N t M ov rv bs1 bs2 vals lss W' :=
  ⟨h.si.step hr hq hg, h.col, h.len, h.met, h.own.step hr hg, h.rest.step hr hg⟩
theorem SrchJ.congr (h : SrchJ r hv w ob hb free b ds H A N t M ov rv bs1 bs2 vals lss W) (hH : ∀ i m, i < r.houses.length → (H i m ↔ H' i m)) (hA : ∀ m, A m ↔ A' m) (hN : N ≤ N') (hM : t' = true ↔ M') : SrchJ r hv w ob hb free b ds H' A' N' t' M' ov rv bs1 bs2 vals lss W :=
  ⟨h.si, h.col.congr hH hA (fun _ => Iff.rfl), h.len.mono hN, hM, h.own, h.rest⟩
theorem SrchJ.row (h : SrchJ r hv w ob hb free b ds H A N t M ov rv bs1 bs2 vals lss W) {i : Nat} (hi : i < r.houses.length + 2) :
    ∃ v xs, vals[i]? = some v ∧ lss[i]? = some xs ∧ W.cell? (slotA r.houses.length ob hb i) = some v ∧ W.ownsRow (ob + 1) 3 1 v xs.length (xs.map (.int .i64)) ∧ xs.length ≤ N := by
  have h1 := h.si.out.n2
  have h2 := h.si.out.len
  have hv' : vals[i]? = some (vals[i]'(by omega)) := List.getElem?_eq_getElem (by omega)
  have hl' : lss[i]? = some (lss[i]'(by omega)) := List.getElem?_eq_getElem (by omega)
  exact ⟨_, _, hv', hl', (h.si.out.c i _ hv').1, h.si.out.pool.own i _ _ hv' hl', h.len i _ hl'⟩
section push
variable {i g cap : Nat} {v : Value} {xs : List Int} {x : Int} {ty : TypeId}
/-- What a push leaves: the facts for the store, and all that was kept. -/
theorem SrchJ.push (h : SrchJ r hv w ob hb free b ds H A N t M ov rv bs1 bs2 vals lss W) (hx : Ext W W1) (hv' : vals[i]? = some v) (hl : lss[i]? = some xs)
    (own : W4.ownsRow (ob + 1) 3 1 (.slice (some ⟨g, 0, none⟩) (xs.length + 1) cap) (xs.length + 1) (xs.map (.int .i64) ++ [.int .i64 x])) (hg : (W1.alloc (.cells #[.int .i64 x] ty)).grownBy W4 v.ownBlock) (hloc : v.ownBlock = some g ∨ g = W1.heap.size + 1)
    (hcol : Col r.houses.length (lss.set i (xs ++ [x])) H' A' (buttonR r free b)) (hN : N + 1 ≤ N') (hM : t' = true ↔ M') :
    (W4.cell? (slotA r.houses.length ob hb i) = some v ∧ W4.frozen? (slotA r.houses.length ob hb i) = false ∧ W4.cell? ⟨ob, 0, none⟩ = some (.slice (some ⟨hb, 0, none⟩) r.houses.length r.houses.length)) ∧
    NC (ob + 1) W (W4.setCell (slotA r.houses.length ob hb i) (.slice (some ⟨g, 0, none⟩) (xs.length + 1) cap)) ∧
    SrchJ r hv w ob hb free b ds H' A' N' t' M' ov rv bs1 bs2 (vals.set i (.slice (some ⟨g, 0, none⟩) (xs.length + 1) cap)) (lss.set i (xs ++ [x])) (W4.setCell (slotA r.houses.length ob hb i) (.slice (some ⟨g, 0, none⟩) (xs.length + 1) cap)) := by
  obtain ⟨h1, h2⟩ := h.si.push hx hv' hl own hg hloc
  have h3 := h.si.push_nc hx hv' hl own hg hloc
  exact ⟨h1, h3, h2, hcol, (h.len.push hl).mono hN, hM, h.own.nc h3, h.rest.nc h3⟩
end push
end

/-- append of one element, as one step of a region that draws its order. -/
theorem step_push_at {P : Program} {w : World} {t e size bytes : Nat} {z : Value} (E : Elem P t e size bytes z) {ops : Array Oper} {o : Oper} {a : Act} {K : Act → World → Prop} {Q : Exit → Act → World → Prop} {E' : Prop} (hw : Region.wanted o (yielded ops a.tmps) = true) (s x : Operand)
    (hop : o.op = Op.call { callee := Callee.builtin Builtin.append, args := #[s, x], argTypes := #[t, t] }) (base : Nat) {v : Value} {k : Nat} {xs : List Value} (hs : a.eval s = v) (hown : w.ownsRow base e size v k xs)
    {cs : Array Value} {e' : TypeId} {m : Nat} (hx : a.eval x = .slice (some ⟨m, 0, none⟩) 1 1) (hm : m = w.heap.size) (hl : cs.size = size) (h1 : ∀ u ∈ cs.toList, u.oneCell' = true)
    (hK : ∀ g cap w', w'.ownsRow base e size (.slice (some ⟨g, 0, none⟩) (k + 1) cap) (k + 1) (xs ++ cs.toList) → (w.alloc (.cells cs e')).grownBy w' v.ownBlock → (v.ownBlock = some g ∨ g = w.heap.size + 1) → K (a.put o.dst (.slice (some ⟨g, 0, none⟩) (k + 1) cap)) w') (b1 : k + 1 ≤ maxLen) (b2 : (k + 1) * bytes ≤ 140737488355328) (b3 : base ≤ w.heap.size) :
    if Region.wanted o (yielded ops a.tmps) = true then Oper.wp P o a (w.alloc (.cells cs e')) K Q else E' := by
  rw [if_pos hw]
  subst hm
  obtain ⟨i, hi, hz, hsz, hb⟩ := E.info
  obtain ⟨v', w', hrun, ho, hgr, _, hloc⟩ := run_append_own_at (P := P) (w.alloc (.cells cs e')) base t o.type e i z size bytes E.slice hi hz hsz hb E.zero E.pos v k xs (hown.alloc _) ⟨w.heap.size, 0, none⟩ 1 1 cs.toList (by simp [hl]) (by
    intro j u hj
    obtain ⟨a1, c, hv, _, _, _, h3⟩ := RowAt.new1 w cs e'
    cases hv
    obtain ⟨b, o1, ha, hc⟩ := h3 j u hj
    cases ha
    rcases Nat.eq_zero_or_pos j with rfl | h0
    · simpa [Addr.add] using hc
    · simpa [Addr.add, Nat.ne_of_gt h0] using hc) h1 b1 b2 (by simp; omega)
  obtain ⟨g, cap, rfl⟩ := owns_succ ho
  unfold Oper.wp
  simp [execOp, hop, resolve, invoke, builtin, hs, hx, hrun, Result.andThen]
  refine hK g cap w' ho hgr ?_
  rcases hloc with h | h
  · exact .inl (h ▸ rfl)
  · right; have : some g = some (w.alloc (.cells cs e')).heap.size := h
    simpa using this
theorem E_numbers : Elem Tryz.prog 80 3 1 8 (.int .i64 0) := by
  obtain ⟨i, h1, h2, h3, h4⟩ := info_parts info_int
  exact ⟨Tryz.underlying80, ⟨i, h1, h2, h3, h4⟩, rfl, by decide⟩
theorem owns_low {w : World} {base base' : Nat} {e : TypeId} {size : Nat} {v : Value} {n : Nat} {xs : List Value} (h : w.ownsRow base e size v n xs) (hb : base' ≤ base) : w.ownsRow base' e size v n xs := by
  refine ⟨h.1, ?_⟩
  rcases h.2 with h1 | ⟨g, cap, cur, h1, h2, h3⟩
  · exact .inl h1
  · exact .inr ⟨g, cap, cur, h1, by omega, h3⟩
section
variable {Ss : List (Int → Prop)} {most lo hi : Int} {H0 : Nat → Int → Prop} {A0 : Int → Prop}
theorem H2_zero {i : Nat} {m : Int} : H2 Ss most lo hi H0 0 i m ↔ H0 i m := ⟨fun h => h.elim id (fun h => by omega), .inl⟩
theorem A2_zero {m : Int} : A2 Ss most lo hi A0 0 m ↔ A0 m := ⟨fun h => h.elim id (fun ⟨j, _, h, _⟩ => by omega), .inl⟩
theorem met2_zero (h : met2 Ss most lo hi 0) : False := by obtain ⟨j, _, _, h, _⟩ := h; omega
end
theorem sz_of {n N : Nat} (h1 : n ≤ N) (h2 : N ≤ 5 * perB) : n + 1 ≤ maxLen ∧ (n + 1) * 8 ≤ 140737488355328 := by
  unfold perB at h2; unfold maxLen; omega

theorem SI.fz {r : Round} {hv : Value} {w : World} {ob hb : Nat} {vals : List Value} {lss : List (List Int)} {ds : List Deferred} {W : World} (h : SI r hv w ob hb vals lss ds W) :
    W.frozen? ⟨w.heap.size + 1, 0, none⟩ = false ∧ W.frozen? ⟨w.heap.size + 1, 1, none⟩ = false ∧ W.frozen? ⟨w.heap.size + 1, 2, none⟩ = false := by
  have h0 := h.fb
  simp [World.frozen?, h0]
theorem OutM.slices {n ob hb B : Nat} {vals : List Value} {lss : List (List Int)} {W : World} (h : OutM n ob hb B vals lss W) {i : Nat} (hi : i < n + 2) : ∃ a k c, vals.getD i undef = .slice a k c := by
  have h1 := h.n2
  have h2 := h.len
  have hv : vals[i]? = some (vals[i]'(by omega)) := List.getElem?_eq_getElem (by omega)
  have hl : lss[i]? = some (lss[i]'(by omega)) := List.getElem?_eq_getElem (by omega)
  have hg : vals.getD i undef = vals[i]'(by omega) := by rw [List.getD_eq_getElem?_getD, hv]; rfl
  rw [hg]
  rcases (h.pool.own i _ _ hv hl).2 with ⟨e, _⟩ | ⟨g, cap, cur, e, _⟩
  · exact ⟨_, _, _, e⟩
  · exact ⟨_, _, _, e⟩
/-! ### The end -/
theorem ext_marks {w A B : World} (h : Ext w A) (hk : ∀ (k : Nat) (o : Obj), A.heap[k]? = some o → (k < w.heap.size ∨ ∀ l, o ≠ .deferred l) → B.heap[k]? = some o) (k1 : B.os = A.os) (k2 : B.tape = A.tape) (k3 : B.output = A.output) (k4 : A.heap.size ≤ B.heap.size) : Ext w B :=
  ⟨k1.trans (Below.os h), k2.trans (Below.tape h), k3.trans (Below.output h), Nat.le_trans h.size k4, fun i hi => by
    have hs := h.size
    obtain ⟨o, ho⟩ : ∃ o, A.heap[i]? = some o := ⟨_, Array.getElem?_eq_getElem (by omega)⟩
    rw [hk i o ho (.inl hi), ← ho]; exact Below.block h i hi⟩
theorem OutM.keep {n ob hb B b : Nat} {vals : List Value} {lss : List (List Int)} {W W' : World} (h : OutM n ob hb B vals lss W) (b1 : b ≠ ob) (b2 : b ≠ hb) (b3 : b < B) (hk : ∀ (k : Nat) (o : Obj), k ≠ b → W.heap[k]? = some o → o.isCells = true → W'.heap[k]? = some o) : OutM n ob hb B vals lss W' := by
  have key : ∀ (a : Addr) (v : Value), a.block ≠ b → W.cell? a = some v → W'.cell? a = some v ∧ W'.frozen? a = W.frozen? a := fun a v ha hc => by
    obtain ⟨o, ho, hi⟩ := cells_of_cell hc
    have e : W'.heap[a.block]? = W.heap[a.block]? := (hk _ o ha ho hi).trans ho.symm
    exact ⟨(World.cell?_of_block e).trans hc, World.frozen?_of_block e⟩
  refine ⟨⟨h.pool.len, fun i v xs hv hx => ⟨(h.pool.own i v xs hv hx).1, ?_⟩, h.pool.dis⟩, h.n2, (key _ _ (Ne.symm b1) h.c0).1, fun i v hv => ?_, h.lt, h.ne⟩
  · rcases (h.pool.own i v xs hv hx).2 with h1 | ⟨g, cap, cur, h1, h2, h3, h4⟩
    · exact .inl h1
    · exact .inr ⟨g, cap, cur, h1, h2, hk g _ (by omega) h3 rfl, h4⟩
  · obtain ⟨h1, h2⟩ := h.c i v hv
    obtain ⟨h3, h4⟩ := key _ _ (by rcases slotA_block n ob hb i with e | e <;> rw [e] <;> omega) h1
    exact ⟨h3, h4.trans h2⟩
theorem setCell_block {w : World} {b i : Nat} {v : Value} {c : Array Value} {e : TypeId} {f : Nat × Nat} (h : w.heap[b]? = some (.cells c e f)) : (w.setCell ⟨b, i, none⟩ v).heap[b]? = some (.cells (c.setIfInBounds i v) e f) := by
  simp [World.setCell, Array.getElem?_modify, h]
theorem search_end {r : Round} {hv : Value} {w : World} {ob hb : Nat} {free b : Int} {ds : List Deferred} {vals : List Value} {lss : List (List Int)} {W W' : World} {x0 x1 x2 : Value} (h : SrchI r hv w ob hb free b vals lss ds W) (hn : r.houses.length ≤ maxLen)
    (hx : Value.agg #[x0, x1, x2] = .agg #[.slice (some ⟨hb, 0, none⟩) r.houses.length r.houses.length, vals.getD r.houses.length undef, vals.getD (r.houses.length + 1) undef])
    (hk : ∀ (k : Nat) (o : Obj), (((W.setCell ⟨w.heap.size + 1, 0, none⟩ x0).setCell ⟨w.heap.size + 1, 1, none⟩ x1).setCell ⟨w.heap.size + 1, 2, none⟩ x2).heap[k]? = some o → (k < w.heap.size ∨ ∀ l, o ≠ .deferred l) → W'.heap[k]? = some o) :
    W'.heap[w.heap.size + 1]? = some (.cells #[x0, x1, x2] 82 (0, 0)) ∧ FoundAt w.heap.size W' (.agg #[x0, x1, x2]) r.houses.length lss := by
  have hfb := h.si.fb
  have hlo := h.si.lo
  have hlt := h.si.out.lt
  have hsz := (Array.getElem?_eq_some_iff.1 hfb).1
  have hbl : (((W.setCell ⟨w.heap.size + 1, 0, none⟩ x0).setCell ⟨w.heap.size + 1, 1, none⟩ x1).setCell ⟨w.heap.size + 1, 2, none⟩ x2).heap[w.heap.size + 1]? = some (.cells #[x0, x1, x2] 82 (0, 0)) := by
    have s1 := setCell_block (i := 0) (v := x0) hfb
    have s2 := setCell_block (i := 1) (v := x1) s1
    exact setCell_block (i := 2) (v := x2) s2
  refine ⟨hk _ _ hbl (.inr (fun l e => by cases e)), ?_⟩
  rw [hx]
  refine (h.si.out.keep (b := w.heap.size + 1) (by omega) (by omega) (by omega) (fun k o hne ho hc => ?_)).found hn (by omega) (by omega)
  refine hk k o ?_ (.inr (fun l e => by subst e; cases hc))
  rw [Below.heap_setCell _ _ _ _ hne, Below.heap_setCell _ _ _ _ hne, Below.heap_setCell _ _ _ _ hne]; exact ho
/-! ### From one weight to the next -/
theorem houseR_next {r : Round} {free b : Int} (hb : r.lo ≤ b) (i : Nat) (m : Int) (hi : i < r.houses.length) : H2 (ownSs r free b) (r.all + r.off) (r.all - r.off) (r.all + r.off) (houseR r free b) r.houses.length i m ↔ houseR r free (b + 1) i m := by
  unfold H2 houseR HitR; constructor
  · rintro (⟨b', h1, h2, h3⟩ | ⟨_, h3⟩)
    · exact ⟨b', h1, by omega, h3⟩
    · exact ⟨b, hb, by omega, h3⟩
  · rintro ⟨b', h1, h2, h3⟩
    by_cases e : b' = b
    · subst e; exact .inr ⟨hi, h3⟩
    · exact .inl ⟨b', h1, by omega, h3⟩
theorem allR_next {r : Round} {free b : Int} (hb : r.lo ≤ b) (m : Int) : A2 (ownSs r free b) (r.all + r.off) (r.all - r.off) (r.all + r.off) (allR r free b) r.houses.length m ↔ allR r free (b + 1) m := by
  unfold A2 allR HitR; constructor
  · rintro (⟨b', h1, h2, h3⟩ | h3)
    · exact ⟨b', h1, by omega, h3⟩
    · exact ⟨b, hb, by omega, h3⟩
  · rintro ⟨b', h1, h2, h3⟩
    by_cases e : b' = b
    · subst e; exact .inr h3
    · exact .inl ⟨b', h1, by omega, h3⟩
theorem buttonR_no {r : Round} {free b : Int} (h : ¬ met2 (ownSs r free b) (r.all + r.off) (r.all - r.off) (r.all + r.off) r.houses.length) (m : Int) : buttonR r free b m ↔ buttonR r free (b + 1) m := by
  unfold buttonR HitR; constructor
  · rintro ⟨h1, h2, h3⟩; exact ⟨h1, by omega, h3⟩
  · rintro ⟨h1, h2, h3⟩
    by_cases e : m = b
    · subst e; exact absurd h3 h
    · exact ⟨h1, by omega, h3⟩
theorem buttonR_yes {r : Round} {free b : Int} (hb : r.lo ≤ b) (h : met2 (ownSs r free b) (r.all + r.off) (r.all - r.off) (r.all + r.off) r.houses.length) (m : Int) : (buttonR r free b m ∨ m = b) ↔ buttonR r free (b + 1) m := by
  unfold buttonR HitR; constructor
  · rintro (⟨h1, h2, h3⟩ | rfl)
    · exact ⟨h1, by omega, h3⟩
    · exact ⟨hb, by omega, h⟩
  · rintro ⟨h1, h2, h3⟩
    by_cases e : m = b
    · exact .inr e
    · exact .inl ⟨h1, by omega, h3⟩
theorem perB_next {r : Round} {b : Int} (hb : r.lo ≤ b) (hn : r.houses.length ≤ 4) : (b - r.lo).toNat * perB + r.houses.length * (20001 * 202) + 1 ≤ (b + 1 - r.lo).toNat * perB := by
  have h1 : (b + 1 - r.lo).toNat = (b - r.lo).toNat + 1 := by omega
  have h2 : r.houses.length * (20001 * 202) ≤ 4 * (20001 * 202) := Nat.mul_le_mul_right _ hn
  have h3 : r.houses.length * (20001 * 202) + 1 ≤ perB := Nat.succ_le_succ h2
  rw [h1, Nat.add_mul, Nat.one_mul, Nat.add_assoc]
  exact Nat.add_le_add_left h3 _
section done
variable {r : Round} {hv : Value} {w : World} {ob hb : Nat} {free b : Int} {ds : List Deferred} {N0 : Nat} {t : Bool} {ov rv : Value} {bs1 bs2 : List Nat} {vals : List Value} {lss : List (List Int)} {W : World}
/-- A weight is done at which nothing was met. -/
theorem SrchJ.noneMet (h : SrchJ r hv w ob hb free b ds (H2 (ownSs r free b) (r.all + r.off) (r.all - r.off) (r.all + r.off) (houseR r free b) r.houses.length) (A2 (ownSs r free b) (r.all + r.off) (r.all - r.off) (r.all + r.off) (allR r free b) r.houses.length) (N0 + r.houses.length * (20001 * 202)) t (met2 (ownSs r free b) (r.all + r.off) (r.all - r.off) (r.all + r.off) r.houses.length) ov rv bs1 bs2 vals lss W)
    (hb1 : r.lo ≤ b) (hn : r.houses.length ≤ 4) (hN : N0 = (b - r.lo).toNat * perB) (ht : ¬ met2 (ownSs r free b) (r.all + r.off) (r.all - r.off) (r.all + r.off) r.houses.length) : SrchI r hv w ob hb free (b + 1) vals lss ds W :=
  ⟨h.si, h.col.congr (fun i m hi => houseR_next hb1 i m hi) (allR_next hb1) (buttonR_no ht), h.len.mono (by rw [hN]; exact Nat.le_trans (Nat.le_succ _) (perB_next hb1 hn))⟩
theorem SrchJ.someMet {W1 W4 : World} {g cap : Nat} {v : Value} {xs : List Int} {ty : TypeId} (h : SrchJ r hv w ob hb free b ds (H2 (ownSs r free b) (r.all + r.off) (r.all - r.off) (r.all + r.off) (houseR r free b) r.houses.length) (A2 (ownSs r free b) (r.all + r.off) (r.all - r.off) (r.all + r.off) (allR r free b) r.houses.length) (N0 + r.houses.length * (20001 * 202)) t (met2 (ownSs r free b) (r.all + r.off) (r.all - r.off) (r.all + r.off) r.houses.length) ov rv bs1 bs2 vals lss W)
    (hb1 : r.lo ≤ b) (hn : r.houses.length ≤ 4) (hN : N0 = (b - r.lo).toNat * perB) (ht : met2 (ownSs r free b) (r.all + r.off) (r.all - r.off) (r.all + r.off) r.houses.length)
    (hx : Ext W W1) (hv' : vals[r.houses.length + 1]? = some v) (hl : lss[r.houses.length + 1]? = some xs)
    (own : W4.ownsRow (ob + 1) 3 1 (.slice (some ⟨g, 0, none⟩) (xs.length + 1) cap) (xs.length + 1) (xs.map (.int .i64) ++ [.int .i64 b])) (hg : (W1.alloc (.cells #[.int .i64 b] ty)).grownBy W4 v.ownBlock) (hloc : v.ownBlock = some g ∨ g = W1.heap.size + 1) :
    (W4.cell? ⟨ob, 2, none⟩ = some v ∧ W4.frozen? ⟨ob, 2, none⟩ = false) ∧
    SrchI r hv w ob hb free (b + 1) (vals.set (r.houses.length + 1) (.slice (some ⟨g, 0, none⟩) (xs.length + 1) cap)) (lss.set (r.houses.length + 1) (xs ++ [b])) ds (W4.setCell ⟨ob, 2, none⟩ (.slice (some ⟨g, 0, none⟩) (xs.length + 1) cap)) := by
  obtain ⟨h1, h2⟩ := h.si.push hx hv' hl own hg hloc
  have hslot : slotA r.houses.length ob hb (r.houses.length + 1) = ⟨ob, 2, none⟩ := by unfold slotA; rw [if_neg (by omega), if_neg (by omega)]
  rw [hslot] at h1 h2
  exact ⟨⟨h1.1, h1.2.1⟩, h2, (h.col.button hl).congr (fun i m hi => houseR_next hb1 i m hi) (allR_next hb1) (buttonR_yes hb1 ht), (h.len.push hl).mono (by rw [hN]; exact perB_next hb1 hn)⟩
end done
end Go.Proofs.YtbeophjdiddomaaGreatDoor

/- Regions that draw their order: operations taken first under a condition on the world that is asked only while something may still come up (beside the kit's law, in which the last store must keep it too). -/
namespace Go.Proofs.YtbeophjdiddomaaGreatDoor

section
variable {P : Program} {ops : Array Oper} {Q : Exit → Act → World → Prop} {md : Region.Mode} {S : World → Prop}

/-- Whatever order is picked from here on; S holds behind every operation but number z, which waits for all others. -/
def wpTill (P : Program) (md : Region.Mode) (ops : Array Oper) (Q : Exit → Act → World → Prop) (S : World → Prop) (z : Nat) : Nat → Array Bool → Act → World → Prop
  | 0, l, a, w => Region.ready md ops l = [] ∧ Q .normal a w
  | n + 1, l, a, w => (Region.ready md ops l = [] → Q .normal a w) ∧
    ∀ i, i ∈ Region.ready md ops l → wpOp P ops Q i (fun b v => (i ≠ z → S v) ∧ wpTill P md ops Q S z n (l.setIfInBounds i true) b v) a w

theorem wpAny_of_till {z : Nat} : ∀ (n : Nat) (l : Array Bool) (a : Act) (w : World), wpTill P md ops Q S z n l a w → wpAny P md ops Q n l a w
  | 0, _, _, _, h => h
  | n + 1, _, _, _, h => ⟨h.1, fun i hi => wpOp_mono (fun _ _ k => wpAny_of_till n _ _ _ k.2) (h.2 i hi)⟩

theorem till_first {z i : Nat} {o : Oper} {v : Value} (hz : ∀ x, ops[z]? = some x → ∃ e, e ∈ x.after ∧ Region.binds md e = true ∧ e.on = i) (hi : ops[i]? = some o) (hsel : ∀ (j : Nat) (x : Oper) cs b, ops[j]? = some x → x.op ≠ .select cs b)
    (hQ : ∀ c a w, Q (.panic c) (a.put o.dst v) w → Q (.panic c) a w) :
    ∀ (n : Nat) (l : Array Bool) (a : Act) (w : World),
      (∀ j x, ops[j]? = some x → j ≠ i → l.getD j true = false → (∀ e ∈ x.after, Region.binds md e = true → e.on ≠ i) → o.apart ops x = true) →
      i ∈ Region.ready md ops l → YieldsIf P ops S o v a → S w →
      wpTill P md ops Q S z n (l.setIfInBounds i true) (a.put o.dst v) w → wpTill P md ops Q S z (n + 1) l a w := by
  intro n
  induction n with
  | zero =>
    intro l a w _ hr hy hS k
    refine ⟨fun e => (by rw [e] at hr; cases hr), fun j hj => ?_⟩
    by_cases e : j = i
    · subst e
      exact hy.wpOp hi hS ⟨fun _ => hS, k⟩
    · have := ready_mono hj e
      rw [k.1] at this
      cases this
  | succ n ih =>
    intro l a w hf hr hy hS k
    refine ⟨fun e => (by rw [e] at hr; cases hr), fun j hj => ?_⟩
    by_cases e : j = i
    · subst e
      exact hy.wpOp hi hS ⟨fun _ => hS, k⟩
    · have k1 := k.2 j (ready_mono hj e)
      obtain ⟨hju, x, hx, hall⟩ := mem_ready.1 hj
      have hno : ∀ e ∈ x.after, Region.binds md e = true → e.on ≠ i := fun z hz hb h => by
        have g1 := hall z hz hb
        have g0 := (mem_ready.1 hr).1
        rw [h] at g1
        rcases Nat.lt_or_ge i l.size with q | q
        · simp [q] at g0 g1; rw [g0] at g1; cases g1
        · simp [Array.getElem?_eq_none q] at g1
      have k2 := wpOp_putIf hx (hf j x hx e hju hno) (fun cs b => hsel i o cs b hi) (fun cs b => hsel j x cs b hx) hQ hy k1
      have hr2 := ready_mono hr (Ne.symm e)
      refine wpOp_mono (fun b u k3 => ?_) k2
      have hjz : j ≠ z := fun h => by
        subst h
        obtain ⟨y, hy1, hy2, hy3⟩ := hz x hx
        exact hno y hy1 hy2 hy3
      have hSu := k3.2.1 hjz
      have hf2 : ∀ m x, ops[m]? = some x → m ≠ i → (l.setIfInBounds j true).getD m true = false → (∀ e ∈ x.after, Region.binds md e = true → e.on ≠ i) → o.apart ops x = true := fun m x hm hmi hun hn => by
        refine hf m x hm hmi ?_ hn
        by_cases q : j = m
        · subst q; exact hju
        · rw [getD_set_ne true q] at hun; exact hun
      refine ⟨fun _ => hSu, ih (l.setIfInBounds j true) b u hf2 hr2 k3.1 hSu ?_⟩
      rw [Array.setIfInBounds_comm _ _ e]
      exact k3.2.2

theorem till_take {z i : Nat} {o : Oper} {v : Value} {n : Nat} {l : Array Bool} {a : Act} {w : World} (hi : ops[i]? = some o) (hz : (ops[z]?.map fun x => x.after.toList.any fun e => Region.binds md e && e.on == i) = some true)
    (hs : Region.noSelect ops = true) (hf : Region.free md ops l i = true) (hr : (Region.ready md ops l).contains i = true)
    (hQ : ∀ c a w, Q (.panic c) (a.put o.dst v) w → Q (.panic c) a w) (hy : YieldsIf P ops S o v a) (hS : S w)
    (h : wpTill P md ops Q S z n (l.setIfInBounds i true) (a.put o.dst v) w) : wpTill P md ops Q S z (n + 1) l a w := by
  refine till_first (fun x hx => ?_) hi (Region.noSelect_spec hs) hQ n l a w (Region.free_spec hi hf) (by simpa using hr) hy hS h
  rw [hx] at hz
  simp only [Option.map_some, Option.some.injEq, List.any_eq_true, Bool.and_eq_true, beq_iff_eq] at hz
  obtain ⟨e, h1, h2, h3⟩ := hz
  exact ⟨e, by simpa using h1, h2, h3⟩

/-- Only number i may come up now. -/
theorem till_one {z i : Nat} {n : Nat} {l : Array Bool} {a : Act} {w : World} (hr : Region.ready md ops l = [i])
    (h : wpOp P ops Q i (fun b v => (i ≠ z → S v) ∧ wpTill P md ops Q S z n (l.setIfInBounds i true) b v) a w) : wpTill P md ops Q S z (n + 1) l a w :=
  ⟨fun e => (by rw [hr] at e; cases e), fun j hj => by
    rw [hr, List.mem_singleton] at hj
    subst hj
    exact h⟩
theorem till_done {z : Nat} {l : Array Bool} {a : Act} {w : World} (hr : Region.ready md ops l = []) (h : Q .normal a w) : ∀ n, wpTill P md ops Q S z n l a w
  | 0 => ⟨hr, h⟩
  | _ + 1 => ⟨fun _ => h, by rw [hr]; simp⟩
/-! ### Operations by number alone: what they are is asked only where they are looked at -/
theorem till_at {z i : Nat} {d : Option Tmp} {v : Value} {n : Nat} {l : Array Bool} {a : Act} {w : World} (hd : (ops[i]?).map (fun o => o.dst) = some d)
    (hz : (ops[z]?.map fun x => x.after.toList.any fun e => Region.binds md e && e.on == i) = some true)
    (hs : Region.noSelect ops = true) (hf : Region.free md ops l i = true) (hr : (Region.ready md ops l).contains i = true)
    (hQ : ∀ c a w, Q (.panic c) (a.put d v) w → Q (.panic c) a w) (hy : ∀ o, ops[i]? = some o → YieldsIf P ops S o v a) (hS : S w)
    (h : wpTill P md ops Q S z n (l.setIfInBounds i true) (a.put d v) w) : wpTill P md ops Q S z (n + 1) l a w := by
  cases ho : ops[i]? with
  | none => rw [ho] at hd; cases hd
  | some o =>
    rw [ho] at hd
    obtain rfl : o.dst = d := by simpa using hd
    exact till_take ho hz hs hf hr hQ (hy o ho) hS h
theorem till_step {z i : Nat} {n : Nat} {l : Array Bool} {a : Act} {w : World} (hr : Region.ready md ops l = [i]) (hi : (ops[i]?).isSome = true)
    (h : ∀ o, ops[i]? = some o → ∀ K' : Act → World → Prop, Shut (∀ b v, (i ≠ z → S v) → ((i ≠ z → S v) → wpTill P md ops Q S z n (l.setIfInBounds i true) b v) → K' b v) →
      if Region.wanted o (yielded ops a.tmps) = true then Oper.wp P o a w K' Q else K' (a.put o.dst undef) w) : wpTill P md ops Q S z (n + 1) l a w := by
  obtain ⟨o, ho⟩ := Option.isSome_iff_exists.1 hi
  exact till_one hr (wpOp_step ho (fun K' hK => h o ho K' (fun b v h1 h2 => hK b v ⟨h1, h2 h1⟩)))
theorem held_at {i : Nat} {d : Option Tmp} {v : Value} {n : Nat} {l : Array Bool} {a : Act} {w : World} (hd : (ops[i]?).map (fun o => o.dst) = some d)
    (hs : Region.noSelect ops = true) (hf : Region.free md ops l i = true) (hr : (Region.ready md ops l).contains i = true)
    (hQ : ∀ c a w, Q (.panic c) (a.put d v) w → Q (.panic c) a w) (hy : ∀ o, ops[i]? = some o → YieldsIf P ops S o v a) (hS : S w)
    (h : wpAnyH P md ops Q S n (l.setIfInBounds i true) (a.put d v) w) : wpAnyH P md ops Q S (n + 1) l a w := by
  cases ho : ops[i]? with
  | none => rw [ho] at hd; cases hd
  | some o =>
    rw [ho] at hd
    obtain rfl : o.dst = d := by simpa using hd
    exact wpAnyH_take ho hs hf hr hQ (hy o ho) hS h
theorem held_step {i : Nat} {n : Nat} {l : Array Bool} {a : Act} {w : World} {rs : List Nat} (hi : (ops[i]?).isSome = true)
    (h : ∀ o, ops[i]? = some o → ∀ K' : Act → World → Prop, Shut (∀ b v, S v → (S v → wpAnyH P md ops Q S n (l.setIfInBounds i true) b v) → K' b v) →
      if Region.wanted o (yielded ops a.tmps) = true then Oper.wp P o a w K' Q else K' (a.put o.dst undef) w) (hs : AllReadyH P md ops Q S n l a w rs) : AllReadyH P md ops Q S n l a w (i :: rs) := by
  obtain ⟨o, ho⟩ := Option.isSome_iff_exists.1 hi
  exact AllReadyH.cons ho (fun K' hK => h o ho K' hK) hs
end
end Go.Proofs.YtbeophjdiddomaaGreatDoor

/- Regions that draw their order, walked operation by operation: skipped operations in one step. -/
namespace Go.Proofs.YtbeophjdiddomaaGreatDoor

section
variable {P : Program} {ops : Array Oper} {Q : Exit → Act → World → Prop} {md : Region.Mode} {S : World → Prop}

theorem held_take {i : Nat} {d : Option Tmp} {v : Value} {n : Nat} {l : Array Bool} {a : Act} {w : World} (hd : (ops[i]?).map (fun o => o.dst) = some d)
    (hs : Region.noSelect ops = true) (hf : Region.free md ops l i = true) (hr : (Region.ready md ops l).contains i = true)
    (hQ : ∀ c a w, Q (.panic c) (a.put d v) w → Q (.panic c) a w) (hy : ∀ o, ops[i]? = some o → Region.wanted o (yielded ops a.tmps) = true ∧ ∀ w, S w → (execOp a.eval o).run P w = .ok (.value v) w) (hS : S w)
    (h : wpAnyH P md ops Q S n (l.setIfInBounds i true) (a.put d v) w) : wpAnyH P md ops Q S (n + 1) l a w :=
  held_at hd hs hf hr hQ (fun o ho => Or.inl (hy o ho)) hS h

theorem held_skip {i : Nat} {d : Option Tmp} {n : Nat} {l : Array Bool} {a : Act} {w : World} (hd : (ops[i]?).map (fun o => o.dst) = some d)
    (hw : (ops[i]?).map (fun o => Region.wanted o (yielded ops a.tmps)) = some false)
    (hs : Region.noSelect ops = true) (hf : Region.free md ops l i = true) (hr : (Region.ready md ops l).contains i = true)
    (hQ : ∀ c a w, Q (.panic c) (a.put d undef) w → Q (.panic c) a w) (hS : S w)
    (h : wpAnyH P md ops Q S n (l.setIfInBounds i true) (a.put d undef) w) : wpAnyH P md ops Q S (n + 1) l a w :=
  held_at hd hs hf hr hQ (fun o ho => Or.inr ⟨by rw [ho] at hw; simpa using hw, rfl⟩) hS h

/-- Is this number one that may be skipped now, and does its temporary stand undefined? -/
def skipOne (md : Region.Mode) (ops : Array Oper) (tmps : Array Value) (l : Array Bool) (i : Nat) : Bool :=
  Region.noSelect ops && Region.free md ops l i && (Region.ready md ops l).contains i &&
  match ops[i]? with
  | none => false
  | some o => !Region.wanted o (yielded ops tmps) && match o.dst with
    | none => true
    | some d => match tmps[d]? with
      | some (.tuple x) => x.size == 0
      | _ => false
def skipAll (md : Region.Mode) (ops : Array Oper) (tmps : Array Value) : List Nat → Array Bool → Option (Array Bool)
  | [], l => some l
  | i :: is, l => if skipOne md ops tmps l i then skipAll md ops tmps is (l.setIfInBounds i true) else none
theorem put_same {a : Act} {d : Tmp} {v : Value} (h : a.tmps[d]? = some v) : a.put (some d) v = a := by
  cases a
  simp only [Act.put] at *
  congr 1
  apply Array.ext_getElem?
  intro j
  by_cases e : d = j
  · subst e; rw [h]; simp [(Array.getElem?_eq_some_iff.1 h).1]
  · rw [Array.getElem?_setIfInBounds_ne e]
theorem held_skips {is : List Nat} {k n : Nat} {l l' : Array Bool} {a : Act} {w : World} (h : skipAll md ops a.tmps is l = some l') (hk : is.length = k) (hS : S w)
    (hQ : wpAnyH P md ops Q S n l' a w) (hp : ∀ c (d : Option Tmp) a w, Q (.panic c) (a.put d undef) w → Q (.panic c) a w := by intro c d a w h; cases d <;> exact h) : wpAnyH P md ops Q S (n + k) l a w := by
  subst hk
  induction is generalizing l with
  | nil => simp only [skipAll, Option.some.injEq] at h; subst h; exact hQ
  | cons i is ih =>
    unfold skipAll at h
    split at h
    case isFalse => cases h
    case isTrue hone =>
      have h1 := ih h
      unfold skipOne at hone
      cases ho : ops[i]? with
      | none => rw [ho] at hone; simp at hone
      | some o =>
        rw [ho] at hone
        simp only [Bool.and_eq_true, Bool.not_eq_true'] at hone
        obtain ⟨⟨⟨g1, g2⟩, g3⟩, g4, g5⟩ := hone
        have hsame : a.put o.dst undef = a := by
          cases hd : o.dst with
          | none => rfl
          | some d =>
            rw [hd] at g5
            simp only at g5
            split at g5
            · rename_i x hh
              have hx : x = #[] := Array.eq_empty_of_size_eq_zero (by simpa using g5)
              subst hx
              exact put_same hh
            · cases g5
        refine held_at (d := o.dst) (v := undef) (by rw [ho]; rfl) g1 g2 g3 (fun c a w => hp c o.dst a w) (fun o' ho' => ?_) hS ?_
        · rw [ho] at ho'; cases ho'; exact Or.inr ⟨g4, rfl⟩
        · rw [hsame]; exact h1
end
end Go.Proofs.YtbeophjdiddomaaGreatDoor
