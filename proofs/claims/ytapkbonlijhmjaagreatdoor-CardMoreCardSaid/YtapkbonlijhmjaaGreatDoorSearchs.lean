/- What search collects: rows of numbers, each in a block of its own. -/
import Derived.Test.YtapkbonlijhmjaaGreatDoorOthers
import Derived.Test.YtapkbonlijhmjaaGreatDoorWaysb
namespace Go.Proofs.YtapkbonlijhmjaaGreatDoor
open Go.RowKit

def Dis (u v : Value) : Prop := ∀ g, u.ownBlock = some g → v.ownBlock ≠ some g
structure Pool (B : Nat) (vals : List Value) (lss : List (List Int)) (W : World) : Prop where
  len : vals.length = lss.length
  own : ∀ (i : Nat) (v : Value) (xs : List Int), vals[i]? = some v → lss[i]? = some xs → W.ownsRow B 3 1 v xs.length (xs.map (.int .i64))
  dis : ∀ (i j : Nat) (u v : Value), i ≠ j → vals[i]? = some u → vals[j]? = some v → Dis u v
theorem Pool.at {B : Nat} {vals : List Value} {lss : List (List Int)} {W : World} (h : Pool B vals lss W) {i : Nat} {v : Value} (hv : vals[i]? = some v) : ∃ xs, lss[i]? = some xs := by
  have := (List.getElem?_eq_some_iff.1 hv).1
  exact ⟨_, List.getElem?_eq_getElem (by rw [← h.len]; exact this)⟩
theorem Pool.ext {B : Nat} {vals : List Value} {lss : List (List Int)} {W W' : World} (h : Pool B vals lss W) (k : Ext W W') : Pool B vals lss W' :=
  ⟨h.len, fun i v xs hv hx => owns_ext (h.own i v xs hv hx) k, h.dis⟩
theorem Pool.kept {B : Nat} {vals : List Value} {lss : List (List Int)} {W W' : World} {row : Option Nat} (h : Pool B vals lss W) (hg : W.grownBy W' row) (hn : ∀ (i : Nat) (v : Value), vals[i]? = some v → v.ownBlock = none ∨ v.ownBlock ≠ row) : Pool B vals lss W' :=
  ⟨h.len, fun i v xs hv hx => (h.own i v xs hv hx).kept hg (hn i v hv), h.dis⟩
theorem Pool.low {B : Nat} {vals : List Value} {lss : List (List Int)} {W W' : World} {b : Nat} (h : Pool B vals lss W) (hg : W.grownBy W' (some b)) (hb : b < B) : Pool B vals lss W' :=
  h.kept hg (fun i v hv => by
    obtain ⟨xs, hx⟩ := h.at hv
    cases ho : v.ownBlock with
    | none => exact .inl rfl
    | some g => right; intro e; have e' : g = b := by simpa using e
                have := owns_block (h.own i v xs hv hx) g ho; omega)
theorem Pool.push {B : Nat} {vals : List Value} {lss : List (List Int)} {W W1 W4 : World} {i g cap : Nat} {v : Value} {xs : List Int} {x : Int} {t : TypeId} (h : Pool B vals lss W) (hx : Ext W W1) (hv : vals[i]? = some v) (hl : lss[i]? = some xs)
    (own : W4.ownsRow B 3 1 (.slice (some ⟨g, 0, none⟩) (xs.length + 1) cap) (xs.length + 1) (xs.map (.int .i64) ++ [.int .i64 x])) (hg : (W1.alloc (.cells #[.int .i64 x] t)).grownBy W4 v.ownBlock) (hloc : v.ownBlock = some g ∨ g = W1.heap.size + 1) :
    Pool B (vals.set i (.slice (some ⟨g, 0, none⟩) (xs.length + 1) cap)) (lss.set i (xs ++ [x])) W4 := by
  have hiv := (List.getElem?_eq_some_iff.1 hv).1
  have hil := (List.getElem?_eq_some_iff.1 hl).1
  have hnew : ∀ (j : Nat) (u : Value), i ≠ j → vals[j]? = some u → u.ownBlock ≠ some g := fun j u hne hu e => by
    rcases hloc with hl' | hl'
    · exact h.dis i j v u hne hv hu g hl' e
    · obtain ⟨ys, hy⟩ := h.at hu
      have := (World.ownsRow.lt (h.own j u ys hu hy) g e).2
      have := hx.size; omega
  refine ⟨by simp [h.len], fun j u ys hu hy => ?_, fun j k u u' hne hu hu' => ?_⟩
  · by_cases e : j = i
    · subst e
      rw [List.getElem?_set_self hiv] at hu
      rw [List.getElem?_set_self hil] at hy
      cases hu; cases hy
      rw [List.length_append, List.map_append]; exact own
    · rw [List.getElem?_set_ne (fun h => e h.symm)] at hu hy
      have ho := h.own j u ys hu hy
      refine ((owns_ext ho hx).alloc _).kept hg ?_
      cases hb : u.ownBlock with
      | none => exact .inl rfl
      | some k => right; intro e2; exact h.dis j i u v e hu hv k hb (e2 ▸ rfl)
  · by_cases e : j = i
    · subst e
      rw [List.getElem?_set_self hiv] at hu
      cases hu
      rw [List.getElem?_set_ne hne] at hu'
      intro k hk e2
      have hgk : g = k := by simpa [Value.ownBlock] using hk
      subst hgk
      exact hnew k u' hne hu' e2
    · rw [List.getElem?_set_ne (fun h => e h.symm)] at hu
      by_cases e' : k = i
      · subst e'
        rw [List.getElem?_set_self hiv] at hu'
        cases hu'
        intro m hm e2
        have hgm : g = m := by simpa [Value.ownBlock] using e2
        subst hgm
        exact hnew j u (fun h => e h.symm) hu hm
      · rw [List.getElem?_set_ne (fun h => e' h.symm)] at hu'
        exact h.dis j k u u' hne hu hu'

/-- Where the row i is kept: the houses' rows in block hb, the two others in the block ob. -/
def slotA (n ob hb i : Nat) : Addr := if i < n then ⟨hb, i, none⟩ else if i = n then ⟨ob, 1, none⟩ else ⟨ob, 2, none⟩
structure OutM (n ob hb B : Nat) (vals : List Value) (lss : List (List Int)) (W : World) : Prop where
  pool : Pool B vals lss W
  n2 : vals.length = n + 2
  c0 : W.cell? ⟨ob, 0, none⟩ = some (.slice (some ⟨hb, 0, none⟩) n n)
  c : ∀ i v, vals[i]? = some v → W.cell? (slotA n ob hb i) = some v ∧ W.frozen? (slotA n ob hb i) = false
  lt : ob < B ∧ hb < B
  ne : ob ≠ hb
theorem slotA_block (n ob hb i : Nat) : (slotA n ob hb i).block = hb ∨ (slotA n ob hb i).block = ob := by unfold slotA; split; exact .inl rfl; split <;> exact .inr rfl
theorem slotA_ne {n ob hb i j : Nat} (h : ob ≠ hb) (hij : i ≠ j) (hi : i < n + 2) (hj : j < n + 2) : slotA n ob hb i ≠ slotA n ob hb j := by
  unfold slotA
  intro e
  split at e <;> split at e <;> (try split at e) <;> (try split at e) <;> simp at e <;> omega
theorem slotA_c0 {n ob hb i : Nat} (h : ob ≠ hb) : (⟨ob, 0, none⟩ : Addr) ≠ slotA n ob hb i := by
  unfold slotA; intro e
  split at e
  · exact h (congrArg Addr.block e)
  · split at e <;> simp at e
theorem OutM.ext {n ob hb B : Nat} {vals : List Value} {lss : List (List Int)} {W W' : World} (h : OutM n ob hb B vals lss W) (k : Ext W W') : OutM n ob hb B vals lss W' :=
  ⟨h.pool.ext k, h.n2, k.cell h.c0, fun i v hv => ⟨k.cell (h.c i v hv).1, (k.frozen (lt_of_cell (h.c i v hv).1)).trans (h.c i v hv).2⟩, h.lt, h.ne⟩
theorem frozen_grown {w w' : World} {row : Option Nat} (h : w.grownBy w' row) {a : Addr} {v : Value} (hc : w.cell? a = some v) (hn : some a.block ≠ row) : w'.cell? a = some v ∧ w'.frozen? a = w.frozen? a := by
  have hb := h.block a.block (lt_of_cell hc) hn
  exact ⟨(World.cell?_of_block hb).trans hc, World.frozen?_of_block hb⟩
theorem OutM.kept {n ob hb B : Nat} {vals : List Value} {lss : List (List Int)} {W W' : World} {row : Option Nat} (h : OutM n ob hb B vals lss W) (hg : W.grownBy W' row) (hr : ∀ b, row = some b → ∃ o : Obj, W.heap[b]? = some o ∧ o.isCells = false) : OutM n ob hb B vals lss W' := by
  have hnc : ∀ (a : Addr) (v : Value), W.cell? a = some v → some a.block ≠ row := fun a v hc e => by
    obtain ⟨o, ho, hi⟩ := hr _ e.symm
    obtain ⟨o', ho', hi'⟩ := cells_of_cell hc
    rw [ho] at ho'; cases ho'; rw [hi] at hi'; cases hi'
  refine ⟨h.pool.kept hg (fun i v hv => ?_), h.n2, (frozen_grown hg h.c0 (hnc _ _ h.c0)).1, fun i v hv => ?_, h.lt, h.ne⟩
  · obtain ⟨xs, hx⟩ := h.pool.at hv
    rcases (h.pool.own i v xs hv hx).2 with ⟨rfl, _⟩ | ⟨g, cap, cur, rfl, _, hh, _⟩
    · exact .inl rfl
    · right; intro e
      obtain ⟨o, ho, hi⟩ := hr g (by rw [← e]; rfl)
      rw [hh] at ho; cases ho; cases hi
  · obtain ⟨h1, h2⟩ := h.c i v hv
    obtain ⟨h3, h4⟩ := frozen_grown hg h1 (hnc _ _ h1)
    exact ⟨h3, h4.trans h2⟩
theorem OutM.push {n ob hb B : Nat} {vals : List Value} {lss : List (List Int)} {W W1 W4 : World} {i g cap : Nat} {v : Value} {xs : List Int} {x : Int} {t : TypeId} (h : OutM n ob hb B vals lss W) (hx : Ext W W1) (hv : vals[i]? = some v) (hl : lss[i]? = some xs)
    (own : W4.ownsRow B 3 1 (.slice (some ⟨g, 0, none⟩) (xs.length + 1) cap) (xs.length + 1) (xs.map (.int .i64) ++ [.int .i64 x])) (hg : (W1.alloc (.cells #[.int .i64 x] t)).grownBy W4 v.ownBlock) (hloc : v.ownBlock = some g ∨ g = W1.heap.size + 1) :
    (W4.cell? (slotA n ob hb i) = some v ∧ W4.frozen? (slotA n ob hb i) = false ∧ W4.cell? ⟨ob, 0, none⟩ = some (.slice (some ⟨hb, 0, none⟩) n n)) ∧
    OutM n ob hb B (vals.set i (.slice (some ⟨g, 0, none⟩) (xs.length + 1) cap)) (lss.set i (xs ++ [x])) (W4.setCell (slotA n ob hb i) (.slice (some ⟨g, 0, none⟩) (xs.length + 1) cap)) := by
  have hiv := (List.getElem?_eq_some_iff.1 hv).1
  have hp := h.pool.push hx hv hl own hg hloc
  have hx2 : Ext W (W1.alloc (.cells #[.int .i64 x] t)) := hx.alloc _
  have hlow : ∀ a : Addr, a.block < B → some a.block ≠ v.ownBlock := fun a ha e => by have := owns_block (h.pool.own i v xs hv hl) _ e.symm; omega
  have hsl : ∀ j, (slotA n ob hb j).block < B := fun j => by have := h.lt; rcases slotA_block n ob hb j with e | e <;> omega
  have hc4 : ∀ j u, vals[j]? = some u → W4.cell? (slotA n ob hb j) = some u ∧ W4.frozen? (slotA n ob hb j) = false := fun j u hu => by
    obtain ⟨h1, h2⟩ := h.c j u hu
    obtain ⟨h3, h4⟩ := frozen_grown hg (hx2.cell h1) (hlow _ (hsl j))
    exact ⟨h3, h4.trans ((hx2.frozen (lt_of_cell h1)).trans h2)⟩
  have h0 := (frozen_grown hg (hx2.cell h.c0) (hlow _ h.lt.1)).1
  refine ⟨⟨(hc4 i v hv).1, (hc4 i v hv).2, h0⟩, ⟨hp.low (b := (slotA n ob hb i).block) ?_ (hsl i), by simp [h.n2], ?_, fun j u hu => ?_, h.lt, h.ne⟩⟩
  · exact ⟨rfl, rfl, rfl, by simp, fun k _ hk => Below.heap_setCell W4 _ _ k (fun e => hk (by rw [e]))⟩
  · rw [World.cell?_setCell_other (w := W4) (h := (slotA_c0 h.ne).symm)]; exact h0
  · have hj : j < n + 2 := by have := (List.getElem?_eq_some_iff.1 hu).1; simp [h.n2] at this; exact this
    rw [World.frozen?_setCell]
    by_cases e : j = i
    · subst e
      rw [List.getElem?_set_self hiv] at hu
      cases hu
      exact ⟨World.cell?_setCell_same W4 _ _ (hc4 j v hv).1, (hc4 j v hv).2⟩
    · rw [List.getElem?_set_ne (fun h => e h.symm)] at hu
      rw [World.cell?_setCell_other (w := W4) (h := slotA_ne h.ne (fun h => e h.symm) (by rw [← h.n2]; exact hiv) hj)]
      exact hc4 j u hu
end Go.Proofs.YtapkbonlijhmjaaGreatDoor

/- search, in plain Lean: what is met in which round of which loop. -/
namespace Go.Proofs.YtapkbonlijhmjaaGreatDoor

/-! ### The rows' members -/
def MemOf (lss : List (List Int)) (i : Nat) (P : Int → Prop) : Prop := ∃ xs, lss[i]? = some xs ∧ ∀ m, m ∈ xs ↔ P m
theorem MemOf.congr {lss : List (List Int)} {i : Nat} {P Q : Int → Prop} (h : MemOf lss i P) (hq : ∀ m, P m ↔ Q m) : MemOf lss i Q := by
  obtain ⟨xs, h1, h2⟩ := h; exact ⟨xs, h1, fun m => (h2 m).trans (hq m)⟩
theorem MemOf.same {lss : List (List Int)} {i : Nat} {P : Int → Prop} {xs : List Int} {x : Int} (h : MemOf lss i P) (hl : lss[i]? = some xs) : MemOf (lss.set i (xs ++ [x])) i (fun m => P m ∨ m = x) := by
  obtain ⟨ys, h1, h2⟩ := h
  rw [hl] at h1; cases h1
  have hil := (List.getElem?_eq_some_iff.1 hl).1
  exact ⟨_, List.getElem?_set_self hil, fun m => by simp [h2]⟩
theorem MemOf.other {lss : List (List Int)} {i j : Nat} {P : Int → Prop} {ys : List Int} (h : MemOf lss i P) (hij : j ≠ i) : MemOf (lss.set j ys) i P := by
  obtain ⟨xs, h1, h2⟩ := h
  exact ⟨xs, by rw [List.getElem?_set_ne hij]; exact h1, h2⟩
/-- The members of all rows: H those of the houses', A of all, C of the buttons. -/
structure Col (n : Nat) (lss : List (List Int)) (H : Nat → Int → Prop) (A C : Int → Prop) : Prop where
  h : ∀ i, i < n → MemOf lss i (H i)
  a : MemOf lss n A
  c : MemOf lss (n + 1) C
theorem Col.congr {n : Nat} {lss : List (List Int)} {H H' : Nat → Int → Prop} {A A' C C' : Int → Prop} (k : Col n lss H A C) (hH : ∀ i m, i < n → (H i m ↔ H' i m)) (hA : ∀ m, A m ↔ A' m) (hC : ∀ m, C m ↔ C' m) : Col n lss H' A' C' :=
  ⟨fun i hi => (k.h i hi).congr (fun m => hH i m hi), k.a.congr hA, k.c.congr hC⟩
theorem Col.all {n : Nat} {lss : List (List Int)} {H : Nat → Int → Prop} {A C : Int → Prop} {xs : List Int} {x : Int} (k : Col n lss H A C) (hl : lss[n]? = some xs) : Col n (lss.set n (xs ++ [x])) H (fun m => A m ∨ m = x) C :=
  ⟨fun i hi => (k.h i hi).other (by omega), k.a.same hl, k.c.other (by omega)⟩
theorem Col.button {n : Nat} {lss : List (List Int)} {H : Nat → Int → Prop} {A C : Int → Prop} {xs : List Int} {x : Int} (k : Col n lss H A C) (hl : lss[n + 1]? = some xs) : Col n (lss.set (n + 1) (xs ++ [x])) H A (fun m => C m ∨ m = x) :=
  ⟨fun i hi => (k.h i hi).other (by omega), k.a.other (by omega), k.c.same hl⟩
theorem Col.house {n i : Nat} {lss : List (List Int)} {H : Nat → Int → Prop} {A C : Int → Prop} {xs : List Int} {x : Int} (k : Col n lss H A C) (hi : i < n) (hl : lss[i]? = some xs) : Col n (lss.set i (xs ++ [x])) (fun j m => H j m ∨ (j = i ∧ m = x)) A C :=
  ⟨fun j hj => by
    by_cases e : j = i
    · subst e; exact ((k.h j hj).same hl).congr (fun m => by simp)
    · exact ((k.h j hj).other (fun h => e h.symm)).congr (fun m => by simp [e]), k.a.other (by omega), k.c.other (by omega)⟩
def LenLe (lss : List (List Int)) (N : Nat) : Prop := ∀ (i : Nat) (xs : List Int), lss[i]? = some xs → xs.length ≤ N
theorem LenLe.push {lss : List (List Int)} {N i : Nat} {xs : List Int} {x : Int} (h : LenLe lss N) (hl : lss[i]? = some xs) : LenLe (lss.set i (xs ++ [x])) (N + 1) := by
  intro j ys hy
  by_cases e : j = i
  · subst e
    rw [List.getElem?_set_self (List.getElem?_eq_some_iff.1 hl).1] at hy
    cases hy; have := h j xs hl; simp; omega
  · rw [List.getElem?_set_ne (fun h => e h.symm)] at hy; have := h j ys hy; omega
theorem LenLe.mono {lss : List (List Int)} {N M : Nat} (h : LenLe lss N) (k : N ≤ M) : LenLe lss M := fun i xs hx => Nat.le_trans (h i xs hx) k

/-! ### What is met -/
/-- House i can have brought m, and the sum be a. -/
def HitS (Ss : List (Int → Prop)) (most lo hi : Int) (i : Nat) (m a : Int) : Prop := setN Ss i m ∧ otherS Ss most i (a - m) ∧ lo ≤ a ∧ a ≤ hi
section
variable (Ss : List (Int → Prop)) (most lo hi : Int) (H0 : Nat → Int → Prop) (A0 : Int → Prop) (m0 : Prop)
def A2 (i : Nat) (a : Int) : Prop := A0 a ∨ ∃ j m, j < i ∧ HitS Ss most lo hi j m a
def H2 (i : Nat) (j : Nat) (m : Int) : Prop := H0 j m ∨ (j < i ∧ ∃ a, HitS Ss most lo hi j m a)
def met2 (i : Nat) : Prop := ∃ j m a, j < i ∧ HitS Ss most lo hi j m a
def A3 (i : Nat) (L : Int → Prop) (a : Int) : Prop := A2 Ss most lo hi A0 i a ∨ ∃ m, ¬ L m ∧ HitS Ss most lo hi i m a
def H3 (i : Nat) (L : Int → Prop) (j : Nat) (m : Int) : Prop := H2 Ss most lo hi H0 i j m ∨ (j = i ∧ ¬ L m ∧ ∃ a, HitS Ss most lo hi i m a)
def met3 (i : Nat) (L : Int → Prop) : Prop := met2 Ss most lo hi i ∨ ∃ m a, ¬ L m ∧ HitS Ss most lo hi i m a
def A4 (i : Nat) (L : Int → Prop) (x cur a : Int) : Prop := A3 Ss most lo hi A0 i L a ∨ (a < cur ∧ HitS Ss most lo hi i x a)
def fits4 (i : Nat) (x cur : Int) : Prop := ∃ a, a < cur ∧ HitS Ss most lo hi i x a
variable {Ss most lo hi H0 A0 m0}
theorem A4_yes {i : Nat} {L : Int → Prop} {x cur : Int} (h : HitS Ss most lo hi i x cur) (a : Int) : (A4 Ss most lo hi A0 i L x cur a ∨ a = cur) ↔ A4 Ss most lo hi A0 i L x (cur + 1) a := by
  unfold A4; constructor
  · rintro ((h1 | ⟨h1, h2⟩) | rfl)
    · exact .inl h1
    · exact .inr ⟨by omega, h2⟩
    · exact .inr ⟨by omega, h⟩
  · rintro (h1 | ⟨h1, h2⟩)
    · exact .inl (.inl h1)
    · by_cases e : a = cur
      · exact .inr e
      · exact .inl (.inr ⟨by omega, h2⟩)
theorem A4_no {i : Nat} {L : Int → Prop} {x cur : Int} (h : ¬ HitS Ss most lo hi i x cur) (a : Int) : A4 Ss most lo hi A0 i L x cur a ↔ A4 Ss most lo hi A0 i L x (cur + 1) a := by
  unfold A4; constructor
  · rintro (h1 | ⟨h1, h2⟩)
    · exact .inl h1
    · exact .inr ⟨by omega, h2⟩
  · rintro (h1 | ⟨h1, h2⟩)
    · exact .inl h1
    · by_cases e : a = cur
      · subst e; exact absurd h2 h
      · exact .inr ⟨by omega, h2⟩
theorem A4_start {i : Nat} {L : Int → Prop} {x : Int} (a : Int) : A4 Ss most lo hi A0 i L x lo a ↔ A3 Ss most lo hi A0 i L a := by
  unfold A4; constructor
  · rintro (h1 | ⟨h1, h2⟩)
    · exact h1
    · have := h2.2.2.1; omega
  · exact .inl
theorem A4_end {i : Nat} {L : Int → Prop} {x cur : Int} (hc : hi < cur) (a : Int) : A4 Ss most lo hi A0 i L x cur a ↔ A3 Ss most lo hi A0 i (fun z => L z ∧ z ≠ x) a := by
  unfold A4 A3; constructor
  · rintro ((h1 | ⟨m, h1, h2⟩) | ⟨h1, h2⟩)
    · exact .inl h1
    · exact .inr ⟨m, fun h => h1 h.1, h2⟩
    · exact .inr ⟨x, fun h => h.2 rfl, h2⟩
  · rintro (h1 | ⟨m, h1, h2⟩)
    · exact .inl (.inl h1)
    · by_cases e : m = x
      · subst e; exact .inr ⟨by have := h2.2.2.2; omega, h2⟩
      · exact .inl (.inr ⟨m, fun h => h1 ⟨h, e⟩, h2⟩)
theorem fits4_start {i : Nat} {x : Int} : ¬ fits4 Ss most lo hi i x lo := by rintro ⟨a, h1, h2⟩; have := h2.2.2.1; omega
theorem fits4_yes {i : Nat} {x cur : Int} (h : HitS Ss most lo hi i x cur) : fits4 Ss most lo hi i x (cur + 1) := ⟨cur, by omega, h⟩
theorem fits4_no {i : Nat} {x cur : Int} (h : ¬ HitS Ss most lo hi i x cur) : fits4 Ss most lo hi i x cur ↔ fits4 Ss most lo hi i x (cur + 1) := by
  unfold fits4; constructor
  · rintro ⟨a, h1, h2⟩; exact ⟨a, by omega, h2⟩
  · rintro ⟨a, h1, h2⟩
    by_cases e : a = cur
    · subst e; exact absurd h2 h
    · exact ⟨a, by omega, h2⟩
theorem fits4_end {i : Nat} {x cur : Int} (hc : hi < cur) : fits4 Ss most lo hi i x cur ↔ ∃ a, HitS Ss most lo hi i x a := by
  unfold fits4; constructor
  · rintro ⟨a, _, h⟩; exact ⟨a, h⟩
  · rintro ⟨a, h⟩; exact ⟨a, by have := h.2.2.2; omega, h⟩
theorem H3_yes {i : Nat} {L : Int → Prop} {x : Int} (h : ∃ a, HitS Ss most lo hi i x a) (j : Nat) (m : Int) : (H3 Ss most lo hi H0 i L j m ∨ (j = i ∧ m = x)) ↔ H3 Ss most lo hi H0 i (fun z => L z ∧ z ≠ x) j m := by
  unfold H3; constructor
  · rintro ((h1 | ⟨h1, h2, h3⟩) | ⟨h1, rfl⟩)
    · exact .inl h1
    · exact .inr ⟨h1, fun h => h2 h.1, h3⟩
    · exact .inr ⟨h1, fun h => h.2 rfl, h⟩
  · rintro (h1 | ⟨h1, h2, h3⟩)
    · exact .inl (.inl h1)
    · by_cases e : m = x
      · exact .inr ⟨h1, e⟩
      · exact .inl (.inr ⟨h1, fun h => h2 ⟨h, e⟩, h3⟩)
theorem H3_no {i : Nat} {L : Int → Prop} {x : Int} (h : ¬ ∃ a, HitS Ss most lo hi i x a) (j : Nat) (m : Int) : H3 Ss most lo hi H0 i L j m ↔ H3 Ss most lo hi H0 i (fun z => L z ∧ z ≠ x) j m := by
  unfold H3; constructor
  · rintro (h1 | ⟨h1, h2, h3⟩)
    · exact .inl h1
    · exact .inr ⟨h1, fun h => h2 h.1, h3⟩
  · rintro (h1 | ⟨h1, h2, h3⟩)
    · exact .inl h1
    · by_cases e : m = x
      · subst e; exact absurd h3 h
      · exact .inr ⟨h1, fun h => h2 ⟨h, e⟩, h3⟩
theorem met3_yes {i : Nat} {L : Int → Prop} {x : Int} (h : ∃ a, HitS Ss most lo hi i x a) : met3 Ss most lo hi i (fun z => L z ∧ z ≠ x) := by
  obtain ⟨a, h⟩ := h; exact .inr ⟨x, a, fun h => h.2 rfl, h⟩
theorem met3_no {i : Nat} {L : Int → Prop} {x : Int} (h : ¬ ∃ a, HitS Ss most lo hi i x a) : met3 Ss most lo hi i L ↔ met3 Ss most lo hi i (fun z => L z ∧ z ≠ x) := by
  unfold met3; constructor
  · rintro (h1 | ⟨m, a, h2, h3⟩)
    · exact .inl h1
    · exact .inr ⟨m, a, fun h => h2 h.1, h3⟩
  · rintro (h1 | ⟨m, a, h2, h3⟩)
    · exact .inl h1
    · by_cases e : m = x
      · subst e; exact absurd ⟨a, h3⟩ h
      · exact .inr ⟨m, a, fun h => h2 ⟨h, e⟩, h3⟩
theorem A3_start {i : Nat} (a : Int) : A3 Ss most lo hi A0 i (setN Ss i) a ↔ A2 Ss most lo hi A0 i a := by
  unfold A3; constructor
  · rintro (h | ⟨m, h1, h2⟩)
    · exact h
    · exact absurd h2.1 h1
  · exact .inl
theorem H3_start {i : Nat} (j : Nat) (m : Int) : H3 Ss most lo hi H0 i (setN Ss i) j m ↔ H2 Ss most lo hi H0 i j m := by
  unfold H3; constructor
  · rintro (h | ⟨h0, h1, a, h2⟩)
    · exact h
    · exact absurd h2.1 h1
  · exact .inl
theorem met3_start {i : Nat} : met3 Ss most lo hi i (setN Ss i) ↔ met2 Ss most lo hi i := by
  unfold met3; constructor
  · rintro (h | ⟨m, a, h1, h2⟩)
    · exact h
    · exact absurd h2.1 h1
  · exact .inl
theorem A3_end {i : Nat} {L : Int → Prop} (hL : ∀ m, setN Ss i m → ¬ L m) (a : Int) : A3 Ss most lo hi A0 i L a ↔ A2 Ss most lo hi A0 (i + 1) a := by
  unfold A3 A2; constructor
  · rintro ((h | ⟨j, m, h1, h2⟩) | ⟨m, h1, h2⟩)
    · exact .inl h
    · exact .inr ⟨j, m, by omega, h2⟩
    · exact .inr ⟨i, m, by omega, h2⟩
  · rintro (h | ⟨j, m, h1, h2⟩)
    · exact .inl (.inl h)
    · by_cases e : j = i
      · subst e; exact .inr ⟨m, hL m h2.1, h2⟩
      · exact .inl (.inr ⟨j, m, by omega, h2⟩)
theorem H3_end {i : Nat} {L : Int → Prop} (hL : ∀ m, setN Ss i m → ¬ L m) (j : Nat) (m : Int) : H3 Ss most lo hi H0 i L j m ↔ H2 Ss most lo hi H0 (i + 1) j m := by
  unfold H3 H2; constructor
  · rintro ((h | ⟨h1, h2⟩) | ⟨h1, h2, h3⟩)
    · exact .inl h
    · exact .inr ⟨by omega, h2⟩
    · exact .inr ⟨by omega, by rw [h1]; exact h3⟩
  · rintro (h | ⟨h1, a, h2⟩)
    · exact .inl (.inl h)
    · by_cases e : j = i
      · exact .inr ⟨e, hL m (e ▸ h2.1), a, e ▸ h2⟩
      · exact .inl (.inr ⟨by omega, a, h2⟩)
theorem met3_end {i : Nat} {L : Int → Prop} (hL : ∀ m, setN Ss i m → ¬ L m) : met3 Ss most lo hi i L ↔ met2 Ss most lo hi (i + 1) := by
  unfold met3 met2; constructor
  · rintro (⟨j, m, a, h1, h2⟩ | ⟨m, a, h1, h2⟩)
    · exact ⟨j, m, a, by omega, h2⟩
    · exact ⟨i, m, a, by omega, h2⟩
  · rintro ⟨j, m, a, h1, h2⟩
    by_cases e : j = i
    · subst e; exact .inr ⟨m, a, hL m h2.1, h2⟩
    · exact .inl ⟨j, m, a, by omega, h2⟩
end

/-! ### The whole search -/
/-- What house i can have brought, if a button weighs so much; the house free need not have counted right. -/
def ownS (r : Round) (free : Int) (button : Int) (i : Nat) : Int → Prop := fun n => ∃ h, r.houses[i]? = some h ∧ ∃ x, x ∈ waysOf r button h (decide ((i : Int) = free)) ∧ n = nOf r x.1 x.2
def ownSs (r : Round) (free button : Int) : List (Int → Prop) := (List.range r.houses.length).map (ownS r free button)
def HitR (r : Round) (free button : Int) (i : Nat) (m a : Int) : Prop := HitS (ownSs r free button) (r.all + r.off) (r.all - r.off) (r.all + r.off) i m a
def houseR (r : Round) (free : Int) (hi : Int) (i : Nat) (m : Int) : Prop := ∃ b, r.lo ≤ b ∧ b < hi ∧ ∃ a, HitR r free b i m a
def allR (r : Round) (free : Int) (hi : Int) (a : Int) : Prop := ∃ b, r.lo ≤ b ∧ b < hi ∧ ∃ i m, i < r.houses.length ∧ HitR r free b i m a
def buttonR (r : Round) (free : Int) (hi : Int) (b : Int) : Prop := r.lo ≤ b ∧ b < hi ∧ ∃ i m a, i < r.houses.length ∧ HitR r free b i m a
theorem ownSs_at {r : Round} {free button : Int} {i : Nat} (h : i < r.houses.length) : setN (ownSs r free button) i = ownS r free button i := by
  unfold setN ownSs; simp [List.getD, h]
end Go.Proofs.YtapkbonlijhmjaaGreatDoor
