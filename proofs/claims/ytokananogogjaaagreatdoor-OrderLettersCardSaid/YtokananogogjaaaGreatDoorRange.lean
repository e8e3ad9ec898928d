/- The law of a range over a function, in my own form: the body says which blocks it may write; the iterator may turn blocks that are no cells. -/
import Derived.Test.YtokananogogjaaaGreatDoorBase
import Derived.RangeFuncNested
import Derived.RangeFuncLeaves
import Derived.RangeFuncStops
namespace Go.Proofs.YtokananogogjaaaGreatDoor
open Go.RowKit
@[go_sem] theorem wide_fn (f : FuncId) : Fence.wide.fn f = True := rfl
@[go_sem] theorem wide_depth : Fence.wide.depth = none := rfl
/-- Blocks that an iterator's own steps leave as they are: cells, but for the box of a truth value (its result). -/
def keeps : Obj → Bool
 | .cells c _ _ => match c.toList with
  | [.bool _] => false
  | _ => true
 | _ => false
/-- No truth value. -/
def NB (v : Value) : Prop := ∀ b, v ≠ .bool b
theorem NB.int (k : IntKind) (n : Int) : NB (.int k n) := fun b h => by cases h
theorem NB.slice (a : Option Addr) (n c : Nat) : NB (.slice a n c) := fun b h => by cases h
theorem NB.func (f : Fn) (x y : Array Value) : NB (.func f x y) := fun b h => by cases h
theorem keeps_of_cell {w : World} {a : Addr} {v : Value} (h : w.cell? a = some v) (hv : NB v) : ∃ o, w.heap[a.block]? = some o ∧ keeps o = true := by
 unfold World.cell? at h
 split at h
 ·rename_i c e fr hb
  refine ⟨_, hb, ?_⟩
  simp only [keeps]
  split
  ·rename_i b hc
   split at h
   ·cases h
   ·have h1 : c.toList[a.off]? = some v := by simpa using h
    rw [hc] at h1
    cases ho : a.off with
    | zero => rw [ho] at h1; simp at h1; exact (hv b h1.symm).elim
    | succ n => rw [ho] at h1; simp at h1
  ·rfl
 ·cases h
/-- From A to B: new blocks; of the old ones only such turn that are no cells, or the box of a truth value, and lie at or beyond n. -/
structure Quiet (n : Nat) (A B : World) : Prop where
 os : B.os = A.os
 tape : B.tape = A.tape
 output : B.output = A.output
 size : A.heap.size ≤ B.heap.size
 keep : ∀ k o, A.heap[k]? = some o → (k < n ∨ keeps o = true) → B.heap[k]? = some o
/-- From A to B: new blocks; of the old ones only those in M may be written. -/
structure Touch (M : Nat → Prop) (A B : World) : Prop where
 os : B.os = A.os
 tape : B.tape = A.tape
 output : B.output = A.output
 size : A.heap.size ≤ B.heap.size
 keep : ∀ k o, A.heap[k]? = some o → ¬ M k → B.heap[k]? = some o
theorem Quiet.refl (n : Nat) (A : World) : Quiet n A A := ⟨rfl, rfl, rfl, Nat.le_refl _, fun _ _ h _ => h⟩
theorem Quiet.trans {n : Nat} {A B C : World} (h : Quiet n A B) (k : Quiet n B C) : Quiet n A C :=
 ⟨k.os.trans h.os, k.tape.trans h.tape, k.output.trans h.output, Nat.le_trans h.size k.size, fun i o hi hc => k.keep i o (h.keep i o hi hc) hc⟩
theorem Quiet.mono {n m : Nat} {A B : World} (h : Quiet n A B) (hm : m ≤ n) : Quiet m A B :=
 ⟨h.os, h.tape, h.output, h.size, fun i o hi hc => h.keep i o hi (hc.imp (fun h => Nat.lt_of_lt_of_le h hm) id)⟩
theorem Quiet.of_ext {n : Nat} {A B : World} (h : Ext A B) : Quiet n A B :=
 ⟨Below.os h, Below.tape h, Below.output h, Below.size h, fun i _ hi _ => (Below.block h i (Array.getElem?_eq_some_iff.1 hi).1).trans hi⟩
theorem Quiet.putObj {n : Nat} {A : World} {l : Nat} {o : Obj} (o' : Obj) (h : A.heap[l]? = some o) (hn : n ≤ l) (ho : keeps o = false) : Quiet n A (A.putObj l o') :=
 ⟨rfl, rfl, rfl, by simp, fun i x hi hc => by
  by_cases e : i = l
  ·subst e; rw [h] at hi; cases hi; rcases hc with hc | hc
   ·omega
   ·rw [ho] at hc; cases hc
  ·exact (World.putObj_heap_other e).trans hi⟩
/-- What was cells below n goes on: the worlds from the start of a call on. -/
theorem Ext.quiet {w A B : World} (h : Ext w A) {n : Nat} (hn : w.heap.size ≤ n) (k : Quiet n A B) : Ext w B :=
 ⟨k.os.trans (Below.os h), k.tape.trans (Below.tape h), k.output.trans (Below.output h), Nat.le_trans h.size k.size, fun i hi => by
  have hs := h.size
  obtain ⟨o, ho⟩ : ∃ o, A.heap[i]? = some o := ⟨_, Array.getElem?_eq_getElem (by omega)⟩
  rw [k.keep i o ho (.inl (by omega)), ← ho]; exact Below.block h i hi⟩
theorem Quiet.cell {n : Nat} {A B : World} (k : Quiet n A B) {a : Addr} {v : Value} (h : A.cell? a = some v) (hv : NB v) : B.cell? a = some v := by
 obtain ⟨o, ho, hc⟩ := keeps_of_cell h hv
 exact (World.cell?_of_block (w := A) ((k.keep _ _ ho (.inr hc)).trans ho.symm)).trans h
theorem Quiet.frozen {n : Nat} {A B : World} (k : Quiet n A B) {a : Addr} {v : Value} (h : A.cell? a = some v) (hv : NB v) : B.frozen? a = A.frozen? a := by
 obtain ⟨o, ho, hc⟩ := keeps_of_cell h hv
 exact World.frozen?_of_block (w := A) ((k.keep _ _ ho (.inr hc)).trans ho.symm)
theorem Quiet.row {n : Nat} {A B : World} (k : Quiet n A B) {v : Value} {m : Nat} {cs : List Value} (h : RowAt A v m cs) (hv : ∀ u, u ∈ cs → NB u) : RowAt B v m cs := by
 obtain ⟨a, c, hv', h1, h2, h0, h3⟩ := h
 exact ⟨a, c, hv', h1, h2, h0, fun j u hj => by obtain ⟨b, o, ha, hc⟩ := h3 j u hj; exact ⟨b, o, ha, k.cell hc (hv u (List.mem_of_getElem? hj))⟩⟩
/-- A store into the box of a truth value. -/
theorem Quiet.setBool {n : Nat} {A : World} {b : Nat} {x y : Bool} {t : TypeId} {fr : Nat × Nat} (h : A.heap[b]? = some (.cells #[.bool x] t fr)) (hn : n ≤ b) : Quiet n A (A.setCell ⟨b, 0, none⟩ (.bool y)) :=
 ⟨rfl, rfl, rfl, by simp [World.setCell], fun i o hi hc => by
  by_cases e : i = b
  ·subst e
   rw [h] at hi; cases hi
   rcases hc with hc | hc
   ·omega
   ·simp [keeps] at hc
  ·exact (Below.heap_setCell A ⟨b, 0, none⟩ _ i e).trans hi⟩
theorem Touch.refl (M : Nat → Prop) (A : World) : Touch M A A := ⟨rfl, rfl, rfl, Nat.le_refl _, fun _ _ h _ => h⟩
theorem Touch.trans {M : Nat → Prop} {A B C : World} (h : Touch M A B) (k : Touch M B C) : Touch M A C :=
 ⟨k.os.trans h.os, k.tape.trans h.tape, k.output.trans h.output, Nat.le_trans h.size k.size, fun i o hi hc => k.keep i o (h.keep i o hi hc) hc⟩
theorem Touch.mono {M N : Nat → Prop} {A B : World} (h : Touch M A B) (hm : ∀ k, M k → N k) : Touch N A B :=
 ⟨h.os, h.tape, h.output, h.size, fun i o hi hc => h.keep i o hi (fun hk => hc (hm i hk))⟩
theorem Touch.of_ext {M : Nat → Prop} {A B : World} (h : Ext A B) : Touch M A B :=
 ⟨Below.os h, Below.tape h, Below.output h, Below.size h, fun i _ hi _ => (Below.block h i (Array.getElem?_eq_some_iff.1 hi).1).trans hi⟩
theorem Touch.putObj {M : Nat → Prop} {A : World} {l : Nat} (o' : Obj) (hl : M l) : Touch M A (A.putObj l o') :=
 ⟨rfl, rfl, rfl, by simp, fun i _ hi hc => by
  by_cases e : i = l
  ·subst e; exact (hc hl).elim
  ·exact (World.putObj_heap_other e).trans hi⟩
theorem Touch.setCell {M : Nat → Prop} {A : World} {a : Addr} (v : Value) (hl : M a.block) : Touch M A (A.setCell a v) :=
 ⟨rfl, rfl, rfl, by simp [World.setCell], fun i _ hi hc => by
  by_cases e : i = a.block
  ·subst e; exact (hc hl).elim
  ·exact (Below.heap_setCell A a v i e).trans hi⟩
theorem Touch.grown {M : Nat → Prop} {A B : World} {row : Option Nat} (hg : A.grownBy B row) (hr : ∀ k, row = some k → M k) : Touch M A B :=
 ⟨hg.os, hg.tape, hg.output, hg.size, fun i _ hi hc => (hg.block i (Array.getElem?_eq_some_iff.1 hi).1 (fun e => hc (hr i e.symm))).trans hi⟩
/-- A write to a block that A does not have yet is no write to an old block. -/
theorem Touch.of_new {M : Nat → Prop} {A B : World} {N : Nat → Prop} (h : Touch N A B) (hN : ∀ k, N k → k < A.heap.size → M k) : Touch M A B :=
 ⟨h.os, h.tape, h.output, h.size, fun i _ hi hc => h.keep i _ hi (fun hn => hc (hN i hn (Array.getElem?_eq_some_iff.1 hi).1))⟩
theorem Touch.cell {M : Nat → Prop} {A B : World} (k : Touch M A B) {a : Addr} {v : Value} (h : A.cell? a = some v) (hn : ¬ M a.block) : B.cell? a = some v := by
 obtain ⟨o, ho, _⟩ := cells_of_cell h
 exact (World.cell?_of_block (w := A) ((k.keep _ _ ho hn).trans ho.symm)).trans h
theorem Touch.ext {M : Nat → Prop} {w A B : World} (h : Ext w A) (k : Touch M A B) (hm : ∀ i, M i → w.heap.size ≤ i) : Ext w B :=
 ⟨k.os.trans (Below.os h), k.tape.trans (Below.tape h), k.output.trans (Below.output h), Nat.le_trans h.size k.size, fun i hi => by
  have hs := h.size
  obtain ⟨o, ho⟩ : ∃ o, A.heap[i]? = some o := ⟨_, Array.getElem?_eq_getElem (by omega)⟩
  rw [k.keep i o ho (fun hk => by have := hm i hk; omega), ← ho]; exact Below.block h i hi⟩
/-- A fact that the iterator's own steps leave as it is. -/
def Stable (n : Nat) (J : World → Prop) : Prop := ∀ A B, J A → Quiet n A B → J B
theorem Stable.mono {n m : Nat} {J : World → Prop} (h : Stable m J) (hm : m ≤ n) : Stable n J := fun A B hj hq => h A B hj (hq.mono hm)
/-- How a call of yield ends: it has touched O alone, and what it may touch next is of O or new; a round goes on, or says 'no more'. -/
def YRes (O : Nat → Prop) (J : (Nat → Prop) → World → Prop) (Jx : World → Prop) (A : World) (e : Ending) (A' : World) : Prop :=
 ∃ (b : Bool) (O' : Nat → Prop), e = .returned (.bool b) ∧ Touch O A A' ∧ (∀ i, O' i → (O i ∨ A.heap.size ≤ i) ∧ i < A'.heap.size) ∧ (b = true → J O' A') ∧ (b = false → Jx A')
/-- **The contract of an iterator value that gives the list xs**: called with a yield, it calls yield at each element in turn, and returns when a round says 'no more' or all have come.
 En O A x v: v reads as x in A, out of blocks that are not of O. O: the blocks that a round may write: those of the start, and such as rounds have laid. -/
def IterF {α : Type} (P : Program) (gf : Nat) (mk : Value → Array Value) (En : (Nat → Prop) → World → α → Value → Prop) (xs : List α) (O0 : Nat → Prop) (W : World) : Prop :=
 ∀ (l : Nat) (J : Nat → (Nat → Prop) → World → Prop) (Jx : World → Prop), (∀ k O, Stable W.heap.size (J k O)) → Stable W.heap.size Jx →
  (∀ k x v A O, J k O A → xs[k]? = some x → En O A x v → W.heap.size ≤ A.heap.size → (∀ i, O i → i < A.heap.size) → YieldAt Fence.wide 0 P l #[v] A (YRes O (J (k + 1)) Jx A)) →
  J 0 O0 W → (∀ i, O0 i → i < W.heap.size) → CallsIn Fence.wide 0 P gf (mk (.func (.yield l) #[] #[])) W fun e W' => (∃ v, e = .returned v) ∧ ((∃ O, J xs.length O W') ∨ Jx W')
/-- The same, of a closure: the yield comes first. -/
def Iter {α : Type} (P : Program) (gf : Nat) (lb : Array Value) (En : (Nat → Prop) → World → α → Value → Prop) (xs : List α) (O0 : Nat → Prop) (W : World) : Prop :=
 ∀ (l : Nat) (J : Nat → (Nat → Prop) → World → Prop) (Jx : World → Prop), (∀ k O, Stable W.heap.size (J k O)) → Stable W.heap.size Jx →
  (∀ k x v A O, J k O A → xs[k]? = some x → En O A x v → W.heap.size ≤ A.heap.size → (∀ i, O i → i < A.heap.size) → YieldAt Fence.wide 0 P l #[v] A (YRes O (J (k + 1)) Jx A)) →
  J 0 O0 W → (∀ i, O0 i → i < W.heap.size) → CallsIn Fence.wide 0 P gf (#[.func (.yield l) #[] #[]] ++ lb) W fun e W' => (∃ v, e = .returned v) ∧ ((∃ O, J xs.length O W') ∨ Jx W')
/-- How the body of a round may be left. -/
def rangeBody (O : Nat → Prop) (I : (Nat → Prop) → World → Prop) (Ix : Code → World → Prop) (W : World) : Exit → Act → World → Prop
 | .normal, _, W' => Touch O W W' ∧ ∃ O', (∀ i, O' i → (O i ∨ W.heap.size ≤ i) ∧ i < W'.heap.size) ∧ I O' W'
 | .ret, _, W' => Touch O W W' ∧ Ix .ret W'
 | .exit id, _, W' => Touch O W W' ∧ Ix (.exit id) W'
 | .goto t, _, W' => Touch O W W' ∧ Ix (.goto t) W'
 | .panic _, _, _ => False
 | .outgrown, _, _ => False
variable {P : Program}
/-- **The law, outside every round.** -/
theorem wpIn_rangeF {α : Type} {g : Operand} {p : Tmp} {assign body : Code} {Q : Exit → Act → World → Prop} {a : Act} {w : World}
  {gf : Nat} {fi lb : Array Value} (hg : a.eval g = .func (.func gf) fi lb) (eg : ∀ args w, (callFunc gf args).run P w = .ok (.enter gf args) w)
  (En : (Nat → Prop) → World → α → Value → Prop) (hEn : ∀ O O' A x v, (∀ i, O' i → O i) → En O A x v → En O' A x v) (xs : List α) (M : Nat → Prop) (hM : ∀ k, M k → k < w.heap.size)
  (hiter : ∀ W1, Ext w W1 → w.heap.size + 2 = W1.heap.size → IterF P gf (fun y => fi ++ #[y] ++ lb) En xs (fun k => M k ∨ k = w.heap.size + 1) W1)
  (I : Nat → (Nat → Prop) → World → Prop) (Ix : Code → World → Prop) (hI : ∀ k O, Stable w.heap.size (I k O)) (hIx : ∀ c, Stable w.heap.size (Ix c)) (h0 : I 0 M w)
  (Ax : Nat → (Nat → Prop) → α → Value → Act → World → Prop) (hAx : ∀ k O x v a', Stable w.heap.size (Ax k O x v a'))
  (hassign : ∀ (l k : Nat) (O : Nat → Prop) (x : α) (v : Value) (W : World) (K : Act → World → Prop), I k O W → xs[k]? = some x → En O W x v → (∀ a' W', Ext W W' → Ax k O x v a' W' → K a' W') →
   assign.wpIn (Fence.wide.inRound l) 0 P (Exit.then K (fun _ _ _ => False)) { tmps := a.tmps.setIfInBounds p v, defers := [] } W)
  (hbody : ∀ (l k : Nat) (O : Nat → Prop) (x : α) (v : Value) (a' : Act) (W : World), w.heap.size ≤ l → (∃ r, W.heap[l]? = some (.loop r)) → (∀ i, O i → (M i ∨ w.heap.size + 2 ≤ i) ∧ i < W.heap.size) → I k O W → xs[k]? = some x → Ax k O x v a' W → w.heap.size ≤ W.heap.size →
   body.wpIn (Fence.wide.inRound l) 0 P (rangeBody O (I (k + 1)) Ix W) a' W)
  (hdone : ∀ (D : Nat) (O : Nat → Prop) (W : World), w.heap.size ≤ D → (∀ i, O i → M i ∨ w.heap.size + 2 ≤ i) → I xs.length O W → W.heap[D]? = some (.deferred (some [])) → Q .normal { a with defers := { target := .collected D, args := #[] } :: a.defers } W)
  (hstop : ∀ (D : Nat) (c : Code) (W : World), w.heap.size ≤ D → Ix c W → W.heap[D]? = some (.deferred (some [])) → c.wpIn Fence.wide 0 P Q { a with defers := { target := .collected D, args := #[] } :: a.defers } W) :
  (Code.rangeFunc g #[p] assign body).wpIn Fence.wide 0 P Q a w := by
 refine wpIn_rangeFunc ?_
 intro fn hfn
 obtain ⟨rec, hrec⟩ : ∃ rec : LoopState → Option Code → Loop, rec = fun st pe => { state := st, pending := pe, fn, tmps := a.tmps, params := #[p], assign, body, defers := w.heap.size } := ⟨_, rfl⟩
 obtain ⟨W1, hW1⟩ : ∃ W1, (w.alloc (.deferred (some []))).alloc (.loop (rec .ready none)) = W1 := ⟨_, rfl⟩
 have hL1 : W1.heap[w.heap.size + 1]? = some (.loop (rec .ready none)) := by
  rw [← hW1]; have := World.alloc_heap_new (w.alloc (.deferred (some []))) (.loop (rec .ready none)); rwa [World.size_alloc] at this
 have hK1 : W1.heap[w.heap.size]? = some (.deferred (some [])) := by
  rw [← hW1]; exact (Below.heap_alloc _ _ _ (by simp)).trans (World.alloc_heap_new w _)
 have hE1 : Ext w W1 := by rw [← hW1]; exact ((Ext.refl w).alloc _).alloc _
 have hz1 : w.heap.size + 2 = W1.heap.size := by rw [← hW1]; simp
 have hI1 : I 0 M W1 := hI 0 M w W1 h0 (Quiet.of_ext hE1)
 refine ⟨w.heap.size + 1, [{ target := .collected w.heap.size, args := #[] }], W1, { target := .fn (.func gf) lb, args := fi ++ #[.func (.yield (w.heap.size + 1)) #[] #[]] }, W1, gf,
  fi ++ #[.func (.yield (w.heap.size + 1)) #[] #[]] ++ lb, W1, ?_, ?_, ?_, ?_, fun h => by simp [Fence.wide] at h, ?_⟩
 ·rw [← hW1, hrec]; exact run_enterLoop_outer _ _ _ _ _
 ·simp only [resolve, hg]
  simp [go_sem]
 ·intro f' _; trivial
 ·simp [invoke, go_sem, eg]
 ·refine (hiter W1 hE1 hz1 (w.heap.size + 1)
   (fun k O W => (∃ O1, (∀ i, O i ↔ O1 i ∨ i = w.heap.size + 1) ∧ (∀ i, O1 i → M i ∨ w.heap.size + 2 ≤ i) ∧ I k O1 W) ∧ W.heap[w.heap.size + 1]? = some (.loop (rec .ready none)) ∧ W.heap[w.heap.size]? = some (.deferred (some [])))
   (fun W => ∃ c, Ix c W ∧ W.heap[w.heap.size + 1]? = some (.loop (rec .done (some c))) ∧ W.heap[w.heap.size]? = some (.deferred (some [])))
   (fun k O A B hs hq => by
    obtain ⟨⟨O1, h1, h2, h3⟩, h4, h5⟩ := hs
    exact ⟨⟨O1, h1, h2, hI k O1 A B h3 (hq.mono (by omega))⟩, hq.keep _ _ h4 (.inl (by omega)), hq.keep _ _ h5 (.inl (by omega))⟩)
   (fun A B hs hq => by
    obtain ⟨c, hc, hl, hk⟩ := hs
    exact ⟨c, hIx c A B hc (hq.mono (by omega)), hq.keep _ _ hl (.inl (by omega)), hq.keep _ _ hk (.inl (by omega))⟩)
   ?_ ⟨⟨M, fun i => Iff.rfl, fun i h => .inl h, hI1⟩, hL1, hK1⟩ (fun i h => by rcases h with h | h; have := hM i h; omega; omega)).mono ?_
  ·rintro k x v W O ⟨⟨O1, ho, ho1, hi⟩, hl, hk⟩ hx hen hsz hOs
   have hlt : w.heap.size + 1 < W.heap.size := (Array.getElem?_eq_some_iff.1 hl).1
   have hy := run_yield (P := P) (args := #[v]) hl (by rw [hrec]; rfl)
   rw [hrec] at hy
   refine ⟨fn, _, assign, body, hy, roundIn_of_wpIn trivial ?_⟩
   have hfold : ((#[p].zip #[v]).foldl (fun (tmps : Array Value) (x : Tmp × Value) => tmps.setIfInBounds x.1 x.2) a.tmps) = a.tmps.setIfInBounds p v := by simp
   rw [hfold]
   refine hassign _ k O1 x v W _ hi hx (hEn O O1 _ _ _ (fun i h => (ho i).2 (.inl h)) hen) ?_
   intro a' Wa hea hax
   have hla := (Below.block hea _ hlt).trans hl
   have hka := (Below.block hea _ (by omega)).trans hk
   have hia := hI k O1 W Wa hi (Quiet.of_ext hea)
   have hlta : w.heap.size + 1 < Wa.heap.size := (Array.getElem?_eq_some_iff.1 hla).1
   refine ⟨_, run_beginRound hla (by rw [hrec]), ?_⟩
   obtain ⟨Wb, hWb⟩ : ∃ Wb, Wa.putObj (w.heap.size + 1) (.loop { rec .ready none with state := .busy }) = Wb := ⟨_, rfl⟩
   have hq2 : Quiet w.heap.size Wa Wb := by rw [← hWb]; exact Quiet.putObj _ hla (by omega) rfl
   have hl2 : Wb.heap[w.heap.size + 1]? = some (.loop { rec .ready none with state := .busy }) := by rw [← hWb]; exact World.putObj_heap_same hlta
   have hk2 : Wb.heap[w.heap.size]? = some (.deferred (some [])) := by rw [← hWb]; exact (World.putObj_heap_other (by omega)).trans hka
   have ht2 : Touch O Wa Wb := by rw [← hWb]; exact Touch.putObj _ ((ho _).2 (.inr rfl))
   have hsb : W.heap.size ≤ Wb.heap.size := Nat.le_trans hea.size hq2.size
   have hb := hbody (w.heap.size + 1) k O1 x v a' Wb (by omega) ⟨_, hl2⟩ (fun i h => ⟨ho1 i h, by have := hOs i ((ho i).2 (.inl h)); omega⟩) (hI k O1 _ _ hia hq2) hx (hAx k O1 x v a' _ _ hax hq2) (by have := hq2.size; omega)
   rw [hWb]
   refine wpIn_mono hb ?_
   have fin : ∀ (jump : Option Code) (W3 : World), Touch O1 Wb W3 →
     (Instr.endRound (w.heap.size + 1) jump).run P W3 = .ok (.bool jump.isNone) (W3.putObj (w.heap.size + 1) (.loop (rec (if jump.isNone then .ready else .done) jump))) ∧
     W3.heap[w.heap.size + 1]? = some (.loop { rec .ready none with state := .busy }) ∧
     (W3.putObj (w.heap.size + 1) (.loop (rec (if jump.isNone then .ready else .done) jump))).heap[w.heap.size + 1]? = some (.loop (rec (if jump.isNone then .ready else .done) jump)) ∧
     (W3.putObj (w.heap.size + 1) (.loop (rec (if jump.isNone then .ready else .done) jump))).heap[w.heap.size]? = some (.deferred (some [])) := fun jump W3 hk3 => by
    have hl3 := hk3.keep _ _ hl2 (fun hm => by rcases ho1 _ hm with h | h; have := hM _ h; omega; omega)
    have := run_endRound (P := P) jump hl3
    rw [hrec] at this ⊢
    exact ⟨this, by rw [hrec] at hl3; exact hl3, World.putObj_heap_same (Array.getElem?_eq_some_iff.1 hl3).1, (World.putObj_heap_other (by omega)).trans (hk3.keep _ _ hk2 (fun hm => by rcases ho1 _ hm with h | h; have := hM _ h; omega; omega))⟩
   have tou : ∀ (o : Obj) (W3 : World), Touch O1 Wb W3 → Touch O W (W3.putObj (w.heap.size + 1) o) := fun o W3 h3 =>
    ((Touch.of_ext hea).trans ht2).trans ((h3.mono (fun _ h => (ho _).2 (.inl h))).trans (Touch.putObj _ ((ho _).2 (.inr rfl))))
   rintro e a3 W3 hp
   cases e with
   | normal =>
    obtain ⟨hk3, O3, ho3, hi3⟩ := hp
    obtain ⟨hr, hl3, hl4, hk4⟩ := fin none W3 hk3
    refine ⟨_, _, hr, true, (fun i => O3 i ∨ i = w.heap.size + 1), rfl, tou _ _ hk3, fun i hi => ?_, fun _ => ⟨⟨O3, fun i => Iff.rfl, fun i hi => ?_, hI _ _ _ _ hi3 (Quiet.putObj _ hl3 (by omega) rfl)⟩, hl4, hk4⟩, fun h => by cases h⟩
    ·have hs3 : (W3.putObj (w.heap.size + 1) (.loop (rec (if (none : Option Code).isNone then .ready else .done) none))).heap.size = W3.heap.size := by simp
     have hs4 := hk3.size
     rw [hs3]
     rcases hi with h | h
     ·obtain ⟨h1, h2⟩ := ho3 i h
      refine ⟨?_, h2⟩
      rcases h1 with h | h
      ·exact .inl ((ho i).2 (.inl h))
      ·exact .inr (by omega)
     ·exact ⟨.inl ((ho i).2 (.inr h)), by omega⟩
    ·rcases (ho3 i hi).1 with h | h
     ·exact ho1 i h
     ·exact .inr (by omega)
   | ret =>
    obtain ⟨hk3, hi3⟩ := hp
    obtain ⟨hr, hl3, hl4, hk4⟩ := fin (some .ret) W3 hk3
    exact ⟨_, _, hr, false, O, rfl, tou _ _ hk3, fun i h => ⟨.inl h, by have h1 := hOs i h; have h2 := (tou (.loop (rec .done none)) _ hk3).size; simp at h2 ⊢; omega⟩, (fun h => by cases h), fun _ => ⟨.ret, hIx _ _ _ hi3 (Quiet.putObj _ hl3 (by omega) rfl), hl4, hk4⟩⟩
   | exit id =>
    obtain ⟨hk3, hi3⟩ := hp
    obtain ⟨hr, hl3, hl4, hk4⟩ := fin (some (.exit id)) W3 hk3
    exact ⟨_, _, hr, false, O, rfl, tou _ _ hk3, fun i h => ⟨.inl h, by have h1 := hOs i h; have h2 := (tou (.loop (rec .done none)) _ hk3).size; simp at h2 ⊢; omega⟩, (fun h => by cases h), fun _ => ⟨.exit id, hIx _ _ _ hi3 (Quiet.putObj _ hl3 (by omega) rfl), hl4, hk4⟩⟩
   | goto t =>
    obtain ⟨hk3, hi3⟩ := hp
    obtain ⟨hr, hl3, hl4, hk4⟩ := fin (some (.goto t)) W3 hk3
    exact ⟨_, _, hr, false, O, rfl, tou _ _ hk3, fun i h => ⟨.inl h, by have h1 := hOs i h; have h2 := (tou (.loop (rec .done none)) _ hk3).size; simp at h2 ⊢; omega⟩, (fun h => by cases h), fun _ => ⟨.goto t, hIx _ _ _ hi3 (Quiet.putObj _ hl3 (by omega) rfl), hl4, hk4⟩⟩
   | panic ch => exact hp.elim
   | outgrown => exact hp.elim
  ·rintro e W2 ⟨⟨v, rfl⟩, (⟨O, ⟨O1, ho, ho1, hi⟩, hl, hk⟩ | ⟨c, hi, hl, hk⟩)⟩
   ·exact ⟨none, _, by have := run_endLoop (P := P) hl (by rw [hrec]; simp); rw [hrec] at this; exact this, hdone _ O1 _ (Nat.le_refl _) ho1 (hI _ _ _ _ hi (Quiet.putObj _ hl (by omega) rfl)) ((World.putObj_heap_other (by omega)).trans hk)⟩
   ·exact ⟨some c, _, by have := run_endLoop (P := P) hl (by rw [hrec]; simp); rw [hrec] at this; exact this, hstop _ c _ (Nat.le_refl _) (hIx c _ _ hi (Quiet.putObj _ hl (by omega) rfl)) ((World.putObj_heap_other (by omega)).trans hk)⟩
theorem wpIn_range {α : Type} {g : Operand} {p : Tmp} {assign body : Code} {Q : Exit → Act → World → Prop} {a : Act} {w : World}
  {gf : Nat} {lb : Array Value} (hg : a.eval g = .func (.func gf) #[] lb) (eg : ∀ args w, (callFunc gf args).run P w = .ok (.enter gf args) w)
  (En : (Nat → Prop) → World → α → Value → Prop) (hEn : ∀ O O' A x v, (∀ i, O' i → O i) → En O A x v → En O' A x v) (xs : List α) (M : Nat → Prop) (hM : ∀ k, M k → k < w.heap.size)
  (hiter : ∀ W1, Ext w W1 → w.heap.size + 2 = W1.heap.size → Iter P gf lb En xs (fun k => M k ∨ k = w.heap.size + 1) W1)
  (I : Nat → (Nat → Prop) → World → Prop) (Ix : Code → World → Prop) (hI : ∀ k O, Stable w.heap.size (I k O)) (hIx : ∀ c, Stable w.heap.size (Ix c)) (h0 : I 0 M w)
  (Ax : Nat → (Nat → Prop) → α → Value → Act → World → Prop) (hAx : ∀ k O x v a', Stable w.heap.size (Ax k O x v a'))
  (hassign : ∀ (l k : Nat) (O : Nat → Prop) (x : α) (v : Value) (W : World) (K : Act → World → Prop), I k O W → xs[k]? = some x → En O W x v → (∀ a' W', Ext W W' → Ax k O x v a' W' → K a' W') →
   assign.wpIn (Fence.wide.inRound l) 0 P (Exit.then K (fun _ _ _ => False)) { tmps := a.tmps.setIfInBounds p v, defers := [] } W)
  (hbody : ∀ (l k : Nat) (O : Nat → Prop) (x : α) (v : Value) (a' : Act) (W : World), w.heap.size ≤ l → (∃ r, W.heap[l]? = some (.loop r)) → (∀ i, O i → (M i ∨ w.heap.size + 2 ≤ i) ∧ i < W.heap.size) → I k O W → xs[k]? = some x → Ax k O x v a' W → w.heap.size ≤ W.heap.size →
   body.wpIn (Fence.wide.inRound l) 0 P (rangeBody O (I (k + 1)) Ix W) a' W)
  (hdone : ∀ (D : Nat) (O : Nat → Prop) (W : World), w.heap.size ≤ D → (∀ i, O i → M i ∨ w.heap.size + 2 ≤ i) → I xs.length O W → W.heap[D]? = some (.deferred (some [])) → Q .normal { a with defers := { target := .collected D, args := #[] } :: a.defers } W)
  (hstop : ∀ (D : Nat) (c : Code) (W : World), w.heap.size ≤ D → Ix c W → W.heap[D]? = some (.deferred (some [])) → c.wpIn Fence.wide 0 P Q { a with defers := { target := .collected D, args := #[] } :: a.defers } W) :
  (Code.rangeFunc g #[p] assign body).wpIn Fence.wide 0 P Q a w :=
 wpIn_rangeF (fi := #[]) hg eg En hEn xs M hM (fun W1 h1 h2 l J Jx a1 a2 a3 a4 a5 => by have := hiter W1 h1 h2 l J Jx a1 a2 a3 a4 a5; simpa using this) I Ix hI hIx h0 Ax hAx hassign hbody hdone hstop
end Go.Proofs.YtokananogogjaaaGreatDoor
