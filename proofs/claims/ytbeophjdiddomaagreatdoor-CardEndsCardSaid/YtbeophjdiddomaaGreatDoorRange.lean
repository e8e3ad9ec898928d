/- The law of a range over a function, in my own form: the body says which blocks it may write; the iterator may turn blocks that are no cells. -/
import Derived.Test.YtbeophjdiddomaaGreatDoorLeafb
import Derived.RangeFuncNested
import Derived.RangeFuncLeaves
import Derived.RangeFuncStops
namespace Go.Proofs.YtbeophjdiddomaaGreatDoor
open Go.RowKit

@[go_sem] theorem wide_fn (f : FuncId) : Fence.wide.fn f = True := rfl
@[go_sem] theorem wide_depth : Fence.wide.depth = none := rfl

/-- From A to B: new blocks; of the old ones only such turn that are no cells and lie at or beyond n. -/
structure Quiet (n : Nat) (A B : World) : Prop where
  os : B.os = A.os
  tape : B.tape = A.tape
  output : B.output = A.output
  size : A.heap.size ≤ B.heap.size
  keep : ∀ k o, A.heap[k]? = some o → (k < n ∨ o.isCells = true) → B.heap[k]? = some o

/-- From A to B: new blocks; of the old ones only those in M may be written. -/
structure Touch (M : Nat → Prop) (A B : World) : Prop where
  os : B.os = A.os
  tape : B.tape = A.tape
  output : B.output = A.output
  size : A.heap.size ≤ B.heap.size
  keep : ∀ k o, A.heap[k]? = some o → ¬ M k → B.heap[k]? = some o

theorem Quiet.refl (n : Nat) (A : World) : Quiet n A A := ⟨rfl, rfl, rfl, Nat.le_refl _, fun _ _ h _ => h⟩
theorem Quiet.trans {n : Nat} {A B C : World} (h : Quiet n A B) (k : Quiet n B C) : Quiet n A C :=
  ⟨k.os.trans h.os, k.tape.trans h.tape, k.output.trans h.output, Nat.le_trans h.size k.size, fun i o hi hc => k.keep i o (h.keep i o hi hc) hc⟩
theorem Quiet.mono {n m : Nat} {A B : World} (h : Quiet n A B) (hm : m ≤ n) : Quiet m A B :=
  ⟨h.os, h.tape, h.output, h.size, fun i o hi hc => h.keep i o hi (hc.imp (fun h => Nat.lt_of_lt_of_le h hm) id)⟩
theorem Quiet.of_ext {n : Nat} {A B : World} (h : Ext A B) : Quiet n A B :=
  ⟨Below.os h, Below.tape h, Below.output h, Below.size h, fun i _ hi _ => (Below.block h i (Array.getElem?_eq_some_iff.1 hi).1).trans hi⟩
theorem Quiet.putObj {n : Nat} {A : World} {l : Nat} {o : Obj} (o' : Obj) (h : A.heap[l]? = some o) (hn : n ≤ l) (ho : o.isCells = false) : Quiet n A (A.putObj l o') :=
  ⟨rfl, rfl, rfl, by simp, fun i x hi hc => by
    by_cases e : i = l
    · subst e; rw [h] at hi; cases hi; rcases hc with hc | hc
      · omega
      · rw [ho] at hc; cases hc
    · exact (World.putObj_heap_other e).trans hi⟩
/-- What was cells below n goes on: the worlds from the start of a call on. -/
theorem Ext.quiet {w A B : World} (h : Ext w A) {n : Nat} (hn : w.heap.size ≤ n) (k : Quiet n A B) : Ext w B :=
  ⟨k.os.trans (Below.os h), k.tape.trans (Below.tape h), k.output.trans (Below.output h), Nat.le_trans h.size k.size, fun i hi => by
    have hs := h.size
    obtain ⟨o, ho⟩ : ∃ o, A.heap[i]? = some o := ⟨_, Array.getElem?_eq_getElem (by omega)⟩
    rw [k.keep i o ho (.inl (by omega)), ← ho]; exact Below.block h i hi⟩
theorem Quiet.cell {n : Nat} {A B : World} (k : Quiet n A B) {a : Addr} {v : Value} (h : A.cell? a = some v) : B.cell? a = some v := by
  obtain ⟨o, ho, hc⟩ := cells_of_cell h
  exact (World.cell?_of_block (w := A) ((k.keep _ _ ho (.inr hc)).trans ho.symm)).trans h
theorem Quiet.frozen {n : Nat} {A B : World} (k : Quiet n A B) {a : Addr} {v : Value} (h : A.cell? a = some v) : B.frozen? a = A.frozen? a := by
  obtain ⟨o, ho, hc⟩ := cells_of_cell h
  exact World.frozen?_of_block (w := A) ((k.keep _ _ ho (.inr hc)).trans ho.symm)
theorem Quiet.row {n : Nat} {A B : World} (k : Quiet n A B) {v : Value} {m : Nat} {cs : List Value} (h : RowAt A v m cs) : RowAt B v m cs := by
  obtain ⟨a, c, hv, h1, h2, h0, h3⟩ := h
  exact ⟨a, c, hv, h1, h2, h0, fun j u hj => by obtain ⟨b, o, ha, hc⟩ := h3 j u hj; exact ⟨b, o, ha, k.cell hc⟩⟩
theorem Quiet.boxed {n : Nat} {A B : World} (k : Quiet n A B) {b : Nat} {t : TypeId} {v : Value} (h : Boxed A b t v) : Boxed B b t v := k.keep b _ h (.inr rfl)

theorem Touch.refl (M : Nat → Prop) (A : World) : Touch M A A := ⟨rfl, rfl, rfl, Nat.le_refl _, fun _ _ h _ => h⟩
theorem Touch.trans {M : Nat → Prop} {A B C : World} (h : Touch M A B) (k : Touch M B C) : Touch M A C :=
  ⟨k.os.trans h.os, k.tape.trans h.tape, k.output.trans h.output, Nat.le_trans h.size k.size, fun i o hi hc => k.keep i o (h.keep i o hi hc) hc⟩
theorem Touch.mono {M N : Nat → Prop} {A B : World} (h : Touch M A B) (hm : ∀ k, M k → N k) : Touch N A B :=
  ⟨h.os, h.tape, h.output, h.size, fun i o hi hc => h.keep i o hi (fun hk => hc (hm i hk))⟩
theorem Touch.of_ext {M : Nat → Prop} {A B : World} (h : Ext A B) : Touch M A B :=
  ⟨Below.os h, Below.tape h, Below.output h, Below.size h, fun i _ hi _ => (Below.block h i (Array.getElem?_eq_some_iff.1 hi).1).trans hi⟩
theorem Touch.putObj {M : Nat → Prop} {A : World} {l : Nat} (o' : Obj) (hl : M l) : Touch M A (A.putObj l o') :=
  ⟨rfl, rfl, rfl, by simp, fun i _ hi hc => by
    by_cases e : i = l
    · subst e; exact (hc hl).elim
    · exact (World.putObj_heap_other e).trans hi⟩
theorem Touch.setCell {M : Nat → Prop} {A : World} {a : Addr} (v : Value) (hl : M a.block) : Touch M A (A.setCell a v) :=
  ⟨rfl, rfl, rfl, by simp [World.setCell], fun i _ hi hc => by
    by_cases e : i = a.block
    · subst e; exact (hc hl).elim
    · exact (Below.heap_setCell A a v i e).trans hi⟩
theorem Touch.grown {M : Nat → Prop} {A B : World} {row : Option Nat} (hg : A.grownBy B row) (hr : ∀ k, row = some k → M k) : Touch M A B :=
  ⟨hg.os, hg.tape, hg.output, hg.size, fun i _ hi hc => (hg.block i (Array.getElem?_eq_some_iff.1 hi).1 (fun e => hc (hr i e.symm))).trans hi⟩
/-- A write to a block that A does not have yet is no write to an old block. -/
theorem Touch.of_new {M : Nat → Prop} {A B : World} {N : Nat → Prop} (h : Touch N A B) (hN : ∀ k, N k → k < A.heap.size → M k) : Touch M A B :=
  ⟨h.os, h.tape, h.output, h.size, fun i _ hi hc => h.keep i _ hi (fun hn => hc (hN i hn (Array.getElem?_eq_some_iff.1 hi).1))⟩
theorem Touch.cell {M : Nat → Prop} {A B : World} (k : Touch M A B) {a : Addr} {v : Value} (h : A.cell? a = some v) (hn : ¬ M a.block) : B.cell? a = some v := by
  obtain ⟨o, ho, _⟩ := cells_of_cell h
  exact (World.cell?_of_block (w := A) ((k.keep _ _ ho hn).trans ho.symm)).trans h
theorem Touch.ext {M : Nat → Prop} {w A B : World} (h : Ext w A) (k : Touch M A B) (hm : ∀ i, M i → w.heap.size ≤ i) : Ext w B :=
  ⟨k.os.trans (Below.os h), k.tape.trans (Below.tape h), k.output.trans (Below.output h), Nat.le_trans h.size k.size, fun i hi => by
    have hs := h.size
    obtain ⟨o, ho⟩ : ∃ o, A.heap[i]? = some o := ⟨_, Array.getElem?_eq_getElem (by omega)⟩
    rw [k.keep i o ho (fun hk => by have := hm i hk; omega), ← ho]; exact Below.block h i hi⟩

/-- A fact that the iterator's own steps leave as it is. -/
def Stable (n : Nat) (J : World → Prop) : Prop := ∀ A B, J A → Quiet n A B → J B
theorem Stable.mono {n m : Nat} {J : World → Prop} (h : Stable m J) (hm : m ≤ n) : Stable n J := fun A B hj hq => h A B hj (hq.mono hm)

/-- How a call of yield ends: it has touched M alone; a round goes on, or says 'no more'. -/
def YRes (M : Nat → Prop) (J Jx : World → Prop) (A : World) (e : Ending) (A' : World) : Prop :=
  ∃ b : Bool, e = .returned (.bool b) ∧ Touch M A A' ∧ (b = true → J A') ∧ (b = false → Jx A')

/-- **The contract of an iterator value that gives the list xs**: called with a yield, it calls yield at each element in turn, and returns when a round says 'no more' or all have come.
  En A x v: v reads as x in A. M: the blocks that a round may write. -/
def Iter {α : Type} (P : Program) (gf : Nat) (lb : Array Value) (En : World → α → Value → Prop) (xs : List α) (M : Nat → Prop) (W : World) : Prop :=
  ∀ (l : Nat) (J : Nat → World → Prop) (Jx : World → Prop), (∀ k, Stable W.heap.size (J k)) → Stable W.heap.size Jx →
    (∀ k x v A, J k A → xs[k]? = some x → En A x v → W.heap.size ≤ A.heap.size → YieldAt Fence.wide 0 P l #[v] A (YRes M (J (k + 1)) Jx A)) →
    J 0 W → CallsIn Fence.wide 0 P gf (#[.func (.yield l) #[] #[]] ++ lb) W fun e W' => (∃ v, e = .returned v) ∧ (J xs.length W' ∨ Jx W')

/-- How the body of a round may be left. -/
def rangeBody (M : Nat → Prop) (I : World → Prop) (Ix : Code → World → Prop) (W : World) : Exit → Act → World → Prop
  | .normal, _, W' => Touch M W W' ∧ I W'
  | .ret, _, W' => Touch M W W' ∧ Ix .ret W'
  | .exit id, _, W' => Touch M W W' ∧ Ix (.exit id) W'
  | .goto t, _, W' => Touch M W W' ∧ Ix (.goto t) W'
  | .panic _, _, _ => False
  | .outgrown, _, _ => False

variable {P : Program}

/-- **The law, outside every round.** -/
theorem wpIn_range {α : Type} {g : Operand} {p : Tmp} {assign body : Code} {Q : Exit → Act → World → Prop} {a : Act} {w : World}
    {gf : Nat} {lb : Array Value} (hg : a.eval g = .func (.func gf) #[] lb) (eg : ∀ args w, (callFunc gf args).run P w = .ok (.enter gf args) w)
    (En : World → α → Value → Prop) (xs : List α) (M : Nat → Prop) (hM : ∀ k, M k → k < w.heap.size)
    (hiter : ∀ W1, Ext w W1 → w.heap.size + 2 = W1.heap.size → Iter P gf lb En xs (fun k => M k ∨ k = w.heap.size + 1) W1)
    (I : Nat → World → Prop) (Ix : Code → World → Prop) (hI : ∀ k, Stable w.heap.size (I k)) (hIx : ∀ c, Stable w.heap.size (Ix c)) (h0 : I 0 w)
    (Ax : Nat → α → Value → Act → World → Prop) (hAx : ∀ k x v a', Stable w.heap.size (Ax k x v a'))
    (hassign : ∀ (l k : Nat) (x : α) (v : Value) (W : World) (K : Act → World → Prop), I k W → xs[k]? = some x → En W x v → (∀ a' W', Ext W W' → Ax k x v a' W' → K a' W') →
      assign.wpIn (Fence.wide.inRound l) 0 P (Exit.then K (fun _ _ _ => False)) { tmps := a.tmps.setIfInBounds p v, defers := [] } W)
    (hbody : ∀ (l k : Nat) (x : α) (v : Value) (a' : Act) (W : World), w.heap.size ≤ l → (∃ r, W.heap[l]? = some (.loop r)) → I k W → xs[k]? = some x → Ax k x v a' W → w.heap.size ≤ W.heap.size →
      body.wpIn (Fence.wide.inRound l) 0 P (rangeBody M (I (k + 1)) Ix W) a' W)
    (hdone : ∀ (D : Nat) (W : World), w.heap.size ≤ D → I xs.length W → W.heap[D]? = some (.deferred (some [])) → Q .normal { a with defers := { target := .collected D, args := #[] } :: a.defers } W)
    (hstop : ∀ (D : Nat) (c : Code) (W : World), w.heap.size ≤ D → Ix c W → W.heap[D]? = some (.deferred (some [])) → c.wpIn Fence.wide 0 P Q { a with defers := { target := .collected D, args := #[] } :: a.defers } W) :
    (Code.rangeFunc g #[p] assign body).wpIn Fence.wide 0 P Q a w := by
  refine wpIn_rangeFunc ?_
  intro fn hfn
  obtain ⟨rec, hrec⟩ : ∃ rec : LoopState → Option Code → Loop, rec = fun st pe => { state := st, pending := pe, fn, tmps := a.tmps, params := #[p], assign, body, defers := w.heap.size } := ⟨_, rfl⟩
  obtain ⟨W1, hW1⟩ : ∃ W1, (w.alloc (.deferred (some []))).alloc (.loop (rec .ready none)) = W1 := ⟨_, rfl⟩
  have hL1 : W1.heap[w.heap.size + 1]? = some (.loop (rec .ready none)) := by
    rw [← hW1]; have := World.alloc_heap_new (w.alloc (.deferred (some []))) (.loop (rec .ready none)); rwa [World.size_alloc] at this
  have hK1 : W1.heap[w.heap.size]? = some (.deferred (some [])) := by
    rw [← hW1]; exact (Below.heap_alloc _ _ _ (by simp)).trans (World.alloc_heap_new w _)
  have hE1 : Ext w W1 := by rw [← hW1]; exact ((Ext.refl w).alloc _).alloc _
  have hz1 : w.heap.size + 2 = W1.heap.size := by rw [← hW1]; simp
  have hI1 : I 0 W1 := hI 0 w W1 h0 (Quiet.of_ext hE1)
  refine ⟨w.heap.size + 1, [{ target := .collected w.heap.size, args := #[] }], W1, { target := .fn (.func gf) lb, args := #[.func (.yield (w.heap.size + 1)) #[] #[]] }, W1, gf,
    #[.func (.yield (w.heap.size + 1)) #[] #[]] ++ lb, W1, ?_, ?_, ?_, ?_, fun h => by simp [Fence.wide] at h, ?_⟩
  · rw [← hW1, hrec]; exact run_enterLoop_outer _ _ _ _ _
  · simp only [resolve, hg]
    simp [go_sem]
  · intro f' _; trivial
  · simp [invoke, go_sem, eg]
  · refine (hiter W1 hE1 hz1 (w.heap.size + 1)
      (fun k W => I k W ∧ W.heap[w.heap.size + 1]? = some (.loop (rec .ready none)) ∧ W.heap[w.heap.size]? = some (.deferred (some [])))
      (fun W => ∃ c, Ix c W ∧ W.heap[w.heap.size + 1]? = some (.loop (rec .done (some c))) ∧ W.heap[w.heap.size]? = some (.deferred (some [])))
      (fun k A B hs hq => ⟨hI k A B hs.1 (hq.mono (by omega)), hq.keep _ _ hs.2.1 (.inl (by omega)), hq.keep _ _ hs.2.2 (.inl (by omega))⟩)
      (fun A B hs hq => by
        obtain ⟨c, hc, hl, hk⟩ := hs
        exact ⟨c, hIx c A B hc (hq.mono (by omega)), hq.keep _ _ hl (.inl (by omega)), hq.keep _ _ hk (.inl (by omega))⟩)
      ?_ ⟨hI1, hL1, hK1⟩).mono ?_
    · rintro k x v W ⟨hi, hl, hk⟩ hx hen hsz
      have hlt : w.heap.size + 1 < W.heap.size := (Array.getElem?_eq_some_iff.1 hl).1
      have hy := run_yield (P := P) (args := #[v]) hl (by rw [hrec]; rfl)
      rw [hrec] at hy
      refine ⟨fn, _, assign, body, hy, roundIn_of_wpIn trivial ?_⟩
      have hfold : ((#[p].zip #[v]).foldl (fun (tmps : Array Value) (x : Tmp × Value) => tmps.setIfInBounds x.1 x.2) a.tmps) = a.tmps.setIfInBounds p v := by simp
      rw [hfold]
      refine hassign _ k x v W _ hi hx hen ?_
      intro a' Wa hea hax
      have hla := (Below.block hea _ hlt).trans hl
      have hka := (Below.block hea _ (by omega)).trans hk
      have hia := hI k W Wa hi (Quiet.of_ext hea)
      have hlta : w.heap.size + 1 < Wa.heap.size := (Array.getElem?_eq_some_iff.1 hla).1
      refine ⟨_, run_beginRound hla (by rw [hrec]), ?_⟩
      obtain ⟨Wb, hWb⟩ : ∃ Wb, Wa.putObj (w.heap.size + 1) (.loop { rec .ready none with state := .busy }) = Wb := ⟨_, rfl⟩
      have hq2 : Quiet w.heap.size Wa Wb := by rw [← hWb]; exact Quiet.putObj _ hla (by omega) rfl
      have hl2 : Wb.heap[w.heap.size + 1]? = some (.loop { rec .ready none with state := .busy }) := by rw [← hWb]; exact World.putObj_heap_same hlta
      have hk2 : Wb.heap[w.heap.size]? = some (.deferred (some [])) := by rw [← hWb]; exact (World.putObj_heap_other (by omega)).trans hka
      have ht2 : Touch (fun k => M k ∨ k = w.heap.size + 1) Wa Wb := by rw [← hWb]; exact Touch.putObj _ (.inr rfl)
      have hb := hbody (w.heap.size + 1) k x v a' Wb (by omega) ⟨_, hl2⟩ (hI k _ _ hia hq2) hx (hAx k x v a' _ _ hax hq2) (by have := hq2.size; omega)
      rw [hWb]
      refine wpIn_mono hb ?_
      have fin : ∀ (jump : Option Code) (W3 : World), Touch M Wb W3 →
          (Instr.endRound (w.heap.size + 1) jump).run P W3 = .ok (.bool jump.isNone) (W3.putObj (w.heap.size + 1) (.loop (rec (if jump.isNone then .ready else .done) jump))) ∧
          W3.heap[w.heap.size + 1]? = some (.loop { rec .ready none with state := .busy }) ∧
          (W3.putObj (w.heap.size + 1) (.loop (rec (if jump.isNone then .ready else .done) jump))).heap[w.heap.size + 1]? = some (.loop (rec (if jump.isNone then .ready else .done) jump)) ∧
          (W3.putObj (w.heap.size + 1) (.loop (rec (if jump.isNone then .ready else .done) jump))).heap[w.heap.size]? = some (.deferred (some [])) := fun jump W3 hk3 => by
        have hl3 := hk3.keep _ _ hl2 (fun hm => by have := hM _ hm; omega)
        have := run_endRound (P := P) jump hl3
        rw [hrec] at this ⊢
        exact ⟨this, by rw [hrec] at hl3; exact hl3, World.putObj_heap_same (Array.getElem?_eq_some_iff.1 hl3).1, (World.putObj_heap_other (by omega)).trans (hk3.keep _ _ hk2 (fun hm => by have := hM _ hm; omega))⟩
      have tou : ∀ (o : Obj) (W3 : World), Touch M Wb W3 → Touch (fun k => M k ∨ k = w.heap.size + 1) W (W3.putObj (w.heap.size + 1) o) := fun o W3 h3 =>
        ((Touch.of_ext hea).trans ht2).trans ((h3.mono (fun _ h => .inl h)).trans (Touch.putObj _ (.inr rfl)))
      rintro e a3 W3 hp
      cases e with
      | normal =>
        obtain ⟨hk3, hi3⟩ := hp
        obtain ⟨hr, hl3, hl4, hk4⟩ := fin none W3 hk3
        exact ⟨_, _, hr, true, rfl, tou _ _ hk3, fun _ => ⟨hI _ _ _ hi3 (Quiet.putObj _ hl3 (by omega) rfl), hl4, hk4⟩, fun h => by cases h⟩
      | ret =>
        obtain ⟨hk3, hi3⟩ := hp
        obtain ⟨hr, hl3, hl4, hk4⟩ := fin (some .ret) W3 hk3
        exact ⟨_, _, hr, false, rfl, tou _ _ hk3, (fun h => by cases h), fun _ => ⟨.ret, hIx _ _ _ hi3 (Quiet.putObj _ hl3 (by omega) rfl), hl4, hk4⟩⟩
      | exit id =>
        obtain ⟨hk3, hi3⟩ := hp
        obtain ⟨hr, hl3, hl4, hk4⟩ := fin (some (.exit id)) W3 hk3
        exact ⟨_, _, hr, false, rfl, tou _ _ hk3, (fun h => by cases h), fun _ => ⟨.exit id, hIx _ _ _ hi3 (Quiet.putObj _ hl3 (by omega) rfl), hl4, hk4⟩⟩
      | goto t =>
        obtain ⟨hk3, hi3⟩ := hp
        obtain ⟨hr, hl3, hl4, hk4⟩ := fin (some (.goto t)) W3 hk3
        exact ⟨_, _, hr, false, rfl, tou _ _ hk3, (fun h => by cases h), fun _ => ⟨.goto t, hIx _ _ _ hi3 (Quiet.putObj _ hl3 (by omega) rfl), hl4, hk4⟩⟩
      | panic ch => exact hp.elim
      | outgrown => exact hp.elim
    · rintro e W2 ⟨⟨v, rfl⟩, (⟨hi, hl, hk⟩ | ⟨c, hi, hl, hk⟩)⟩
      · exact ⟨none, _, by have := run_endLoop (P := P) hl (by rw [hrec]; simp); rw [hrec] at this; exact this, hdone _ _ (Nat.le_refl _) (hI _ _ _ hi (Quiet.putObj _ hl (by omega) rfl)) ((World.putObj_heap_other (by omega)).trans hk)⟩
      · exact ⟨some c, _, by have := run_endLoop (P := P) hl (by rw [hrec]; simp); rw [hrec] at this; exact this, hstop _ c _ (Nat.le_refl _) (hIx c _ _ hi (Quiet.putObj _ hl (by omega) rfl)) ((World.putObj_heap_other (by omega)).trans hk)⟩
end Go.Proofs.YtbeophjdiddomaaGreatDoor
