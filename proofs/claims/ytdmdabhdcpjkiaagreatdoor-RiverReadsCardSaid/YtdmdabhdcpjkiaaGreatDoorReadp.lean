/- river.read: what it answers; books whose rows lie in new blocks. -/
import Derived.Test.YtdmdabhdcpjkiaaGreatDoorTold
namespace Go.Proofs.YtdmdabhdcpjkiaaGreatDoor
open Go.RowKit
theorem setCell_block {w : World} {b i : Nat} {v : Value} {c : Array Value} {e : TypeId} {f : Nat × Nat} (h : w.heap[b]? = some (.cells c e f)) : (w.setCell ⟨b, i, none⟩ v).heap[b]? = some (.cells (c.setIfInBounds i v) e f) := by
 simp [World.setCell, Array.getElem?_modify, h]
theorem kept_push {W W7 : World} {o x : Obj} {row : Option Nat} {b base : Nat} (hgr : (W.alloc o).grownBy W7 row) (h : W.heap[b]? = some x) (hr : ∀ g, row = some g → base ≤ g) (hb : b < base) : W7.heap[b]? = some x := by
 have hlt := (Array.getElem?_eq_some_iff.1 h).1
 exact (hgr.block b (by rw [World.size_alloc]; omega) (fun e => by have := hr _ e.symm; omega)).trans ((Below.heap_alloc _ _ _ hlt).trans h)
theorem block_cell {W : World} {b i : Nat} {cs : Array Value} {t : TypeId} {v : Value} (h : W.heap[b]? = some (.cells cs t (0, 0))) (hv : cs[i]? = some v) : W.cell? ⟨b, i, none⟩ = some v ∧ W.frozen? ⟨b, i, none⟩ = false := by
 constructor
 ·simp [World.cell?, h, hv]
 ·simp [World.frozen?, h]
theorem E_rivers : Elem Tryz.prog 22 73 3 40 (.agg #[.slice none 0 0, .int .i64 0, .int .i64 0]) := by
 obtain ⟨i, h1, h2, h3, h4⟩ := info_parts (P := Tryz.prog) (e := 73) (z := .agg #[.slice none 0 0, .int .i64 0, .int .i64 0]) (size := 3) (bytes := 40) (by kernel_rfl)
 exact ⟨Tryz.underlying22, ⟨i, h1, h2, h3, h4⟩, rfl, by decide⟩
/-- Rivers whose rows lie off some blocks. -/
def RiversOff (M : Nat → Prop) (w : World) (v : Value) (rs : List River) : Prop := ∃ xs : List (Value × River), xs.map Prod.snd = rs ∧ RowOf riverC w v xs ∧ OffV M v ∧ ∀ x, x ∈ xs → PairsAt w x.1 x.2.grow ∧ OffV M x.1
theorem RiversOff.touch {M : Nat → Prop} {A B : World} {v : Value} {rs : List River} (h : RiversOff M A v rs) (k : Touch M A B) : RiversOff M B v rs := by
 obtain ⟨xs, h1, h2, h3, h4⟩ := h
 exact ⟨xs, h1, RowAt.touch h2 k h3, h3, fun x hx => ⟨RowAt.touch (h4 x hx).1 k (h4 x hx).2, (h4 x hx).2⟩⟩
theorem RiversOff.ext {M : Nat → Prop} {A B : World} {v : Value} {rs : List River} (h : RiversOff M A v rs) (k : Ext A B) : RiversOff M B v rs := by
 obtain ⟨xs, h1, h2, h3, h4⟩ := h
 exact ⟨xs, h1, h2.ext k, h3, fun x hx => ⟨(h4 x hx).1.ext k, (h4 x hx).2⟩⟩
theorem RiversOff.less {M N : Nat → Prop} {A : World} {v : Value} {rs : List River} (h : RiversOff M A v rs) (hm : ∀ i, N i → M i) : RiversOff N A v rs := by
 obtain ⟨xs, h1, h2, h3, h4⟩ := h
 exact ⟨xs, h1, h2, h3.less hm, fun x hx => ⟨(h4 x hx).1, (h4 x hx).2.less hm⟩⟩
theorem RiversOff.at {M : Nat → Prop} {A : World} {v : Value} {rs : List River} (h : RiversOff M A v rs) : RiversAt A v rs := by
 obtain ⟨xs, h1, h2, h3, h4⟩ := h
 exact ⟨xs, h1, h2, fun x hx => (h4 x hx).1⟩
/-- One river more: the rows of those before it stay. -/
theorem rivers_push {p q base k n g cap : Nat} {A B w5 : World} {rv gv u : Value} {xs : List (Value × River)} {x : River} {cs gs : List Value} {o : Obj} {t t' : TypeId} (hA : A.ownsRow base t 3 rv k cs) (hAB : Ext A B) (hq : A.heap.size ≤ q) (hp : p < A.heap.size)
  (hB : B.ownsRow (q + 1) t' 2 gv n gs) (hgs : PairsAt B gv x.grow) (hpa : ∀ y, y ∈ xs → PairsAt A y.1 y.2.grow ∧ OffV (fun i => i ≤ p ∨ rv.ownBlock = some i ∨ A.heap.size ≤ i) y.1)
  (hg5 : (B.alloc o).grownBy w5 rv.ownBlock) (hloc : rv.ownBlock = some g ∨ g = B.heap.size + 1) :
  ∀ y, y ∈ xs ++ [(gv, x)] → PairsAt (w5.setCell ⟨p, 1, none⟩ u) y.1 y.2.grow ∧ OffV (fun i => i ≤ p ∨ (Value.slice (some ⟨g, 0, none⟩) (k + 1) cap).ownBlock = some i ∨ (w5.setCell ⟨p, 1, none⟩ u).heap.size ≤ i) y.1 := by
 have hT : Touch (fun i => i ≤ p ∨ rv.ownBlock = some i) B (w5.setCell ⟨p, 1, none⟩ u) := ((Touch.of_ext ((Ext.refl B).alloc o)).trans (Touch.grown hg5 (fun i hi => .inr hi))).trans (Touch.setCell _ (.inl (Nat.le_refl _)))
 have hsz := hAB.size
 have hsz2 := hT.size
 intro y hy
 rcases List.mem_append.1 hy with hy | hy
 ·obtain ⟨h1, h2⟩ := hpa y hy
  refine ⟨RowAt.touch (RowAt.ext h1 hAB) hT (h2.less (fun i hi => hi.elim .inl (fun h => .inr (.inl h)))), fun a m c hv hM => ?_⟩
  have hn := h2 a m c hv
  simp only [not_or] at hn
  obtain ⟨n1, n2, n3⟩ := hn
  rcases hM with h | h | h
  ·exact n1 h
  ·have hga : g = a.block := Option.some.inj h
   rcases hloc with h' | h'
   ·exact n2 (by rw [h', hga])
   ·omega
  ·omega
 ·rw [List.mem_singleton] at hy
  subst hy
  have hoff : ∀ a m c, gv = .slice (some a) m c → q + 1 ≤ a.block ∧ a.block < B.heap.size := fun a m c hv => by
   have := World.ownsRow.lt hB a.block (by
    obtain ⟨_, ⟨e, _⟩ | ⟨g', cap', cur, e, _⟩⟩ := hB
    ·rw [hv] at e; cases e
    ·rw [hv] at e; cases e; rw [hv]; rfl)
   exact this
  have hrb : ∀ i, rv.ownBlock = some i → i < A.heap.size := fun i hi => (World.ownsRow.lt hA i hi).2
  refine ⟨RowAt.touch hgs hT (fun a m c hv hM => ?_), fun a m c hv hM => ?_⟩
  ·have h9 := hoff a m c hv
   rcases hM with h | h
   ·omega
   ·have := hrb _ h; omega
  ·have h9 := hoff a m c hv
   rcases hM with h | h | h
   ·omega
   ·have hga : g = a.block := Option.some.inj h
    rcases hloc with h' | h'
    ·have := hrb _ h'; omega
    ·omega
   ·omega
/-- What read answers. -/
def ReadPost (s : List UInt8) (w : World) (e : Ending) (w' : World) : Prop :=
 (∃ rv, e = .returned (.agg #[.int .i64 (bookOf s).years, rv]) ∧ TextOf s (bookOf s) ∧ RiversOff (· < w.heap.size) w' rv (bookOf s).rivers ∧ Ext w w') ∨ ((¬ ∃ b, TextOf s b) ∧ StrangeP w e w')
end Go.Proofs.YtdmdabhdcpjkiaaGreatDoor
