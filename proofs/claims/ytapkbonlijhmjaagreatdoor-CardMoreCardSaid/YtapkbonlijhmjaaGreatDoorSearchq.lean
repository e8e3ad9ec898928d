/- search: what lies in memory while it runs. -/
import Derived.Test.YtapkbonlijhmjaaGreatDoorSearchs
namespace Go.Proofs.YtapkbonlijhmjaaGreatDoor
open Go.RowKit

theorem OutM.other {n ob hb B : Nat} {vals : List Value} {lss : List (List Int)} {W W' : World} {v : Value} {k : Nat} {xs : List Value} {e : TypeId} (h : OutM n ob hb B vals lss W) (ho : W.ownsRow B e 1 v k xs) (he : e ≠ 3) (hg : W.grownBy W' v.ownBlock) : OutM n ob hb B vals lss W' := by
  have hlow : ∀ a : Addr, a.block < B → some a.block ≠ v.ownBlock := fun a ha e => by have := owns_block ho _ e.symm; omega
  have hsl : ∀ j, (slotA n ob hb j).block < B := fun j => by have := h.lt; rcases slotA_block n ob hb j with e | e <;> omega
  refine ⟨h.pool.kept hg (fun i u hu => ?_), h.n2, (frozen_grown hg h.c0 (hlow _ h.lt.1)).1, fun i u hu => ?_, h.lt, h.ne⟩
  · obtain ⟨ys, hy⟩ := h.pool.at hu
    rcases (h.pool.own i u ys hu hy).2 with ⟨rfl, _⟩ | ⟨g, cap, cur, rfl, _, hh, _⟩
    · exact .inl rfl
    · right; intro e2
      rcases ho.2 with ⟨rfl, _⟩ | ⟨g', cap', cur', rfl, _, hh', _⟩
      · simp [Value.ownBlock] at e2
      · have : g = g' := by simpa [Value.ownBlock] using e2
        subst this
        rw [hh] at hh'; cases hh'; exact he rfl
  · obtain ⟨h1, h2⟩ := h.c i u hu
    obtain ⟨h3, h4⟩ := frozen_grown hg h1 (hlow _ (hsl i))
    exact ⟨h3, h4.trans h2⟩

/-- Marks of loops over iterators: their blocks. -/
def mark0 : Option Obj := some (Obj.deferred (some []))
def MarksAt (B : Nat) (ds : List Deferred) (W : World) : Prop := ∃ Ds : List Nat, ds = Ds.map (fun D => { target := .collected D, args := #[] }) ∧ (Ds.Nodup ∧ ∀ D : Nat, D ∈ Ds → B ≤ D) ∧ ∀ D : Nat, D ∈ Ds → W.heap[D]? = mark0
theorem MarksAt.nil (B : Nat) (W : World) : MarksAt B [] W := ⟨[], rfl, ⟨List.nodup_nil, fun D h => by simp at h⟩, fun D h => by simp at h⟩
theorem MarksAt.keep {B : Nat} {ds : List Deferred} {W W' : World} (h : MarksAt B ds W) (k : ∀ D : Nat, W.heap[D]? = mark0 → W'.heap[D]? = mark0) : MarksAt B ds W' := by
  obtain ⟨Ds, h1, h2, h3⟩ := h; exact ⟨Ds, h1, h2, fun D hD => k D (h3 D hD)⟩
theorem MarksAt.ext {B : Nat} {ds : List Deferred} {W W' : World} (h : MarksAt B ds W) (k : Ext W W') : MarksAt B ds W' := h.keep (fun _ hD => (k.block (Array.getElem?_eq_some_iff.1 hD).1).trans hD)
theorem MarksAt.grown {B : Nat} {ds : List Deferred} {W W' : World} {row : Option Nat} (h : MarksAt B ds W) (hg : W.grownBy W' row) (hr : ∀ b, row = some b → W.heap[b]? ≠ mark0) : MarksAt B ds W' :=
  h.keep (fun D hD => (hg.block D (Array.getElem?_eq_some_iff.1 hD).1 (fun e => hr D e.symm hD)).trans hD)
theorem MarksAt.setCell {B : Nat} {ds : List Deferred} {W : World} (h : MarksAt B ds W) {a : Addr} {u v : Value} (hc : W.cell? a = some u) : MarksAt B ds (W.setCell a v) :=
  h.keep (fun D hD => (Below.heap_setCell W a v D (fun e => by
    obtain ⟨o, ho, hi⟩ := cells_of_cell hc
    rw [← e, hD] at ho; cases ho; cases hi)).trans hD)
theorem marks_leave {F : Fence} {n : Nat} {P : Program} {fn : Func} {tmps : Array Value} {R : Ending → World → Prop} {B : Nat} : ∀ {ds : List Deferred} {W : World}, MarksAt B ds W →
    (∀ W', (∀ (k : Nat) (o : Obj), W.heap[k]? = some o → (k < B ∨ ∀ l, o ≠ .deferred l) → W'.heap[k]? = some o) → W'.os = W.os → W'.tape = W.tape → W'.output = W.output → W.heap.size ≤ W'.heap.size → LeavesIn F n P fn tmps R [] .returning W') → LeavesInM F n P fn tmps R ds .returning W := by
  intro ds
  induction ds with
  | nil => intro W _ h; exact h W (fun _ _ hk _ => hk) rfl rfl rfl (Nat.le_refl _)
  | cons d ds ih =>
    rintro W ⟨Ds, h1, h2, h3⟩ h
    cases Ds with
    | nil => simp at h1
    | cons D Ds =>
      simp only [List.map_cons, List.cons.injEq] at h1
      obtain ⟨rfl, rfl⟩ := h1
      have hD := h3 D (by simp)
      have hl := (Array.getElem?_eq_some_iff.1 hD).1
      refine ⟨by simp, .inl ⟨D, _, rfl, run_takeDeferred hD, ?_⟩⟩
      refine ih ⟨Ds, rfl, ⟨(List.nodup_cons.1 h2.1).2, fun E hE => h2.2 E (by simp [hE])⟩, fun E hE => ?_⟩ (fun W' hk a1 a2 a3 a4 => h W' (fun k o hko ho => hk k o ?_ ho) a1 a2 a3 (Nat.le_trans (by simp) a4))
      · rw [World.putObj_heap_other (fun e => by subst e; exact (List.nodup_cons.1 h2.1).1 hE)]; exact h3 E (by simp [hE])
      · rw [World.putObj_heap_other (fun e => by have hB := h2.2 D (by simp); rcases ho with ho | ho; exact absurd ho (by omega); exact ho (some []) (by rw [e, hD] at hko; cases hko; rfl))]; exact hko

/-- What lies in memory between two steps of the search. -/
structure SI (r : Round) (hv : Value) (w : World) (ob hb : Nat) (vals : List Value) (lss : List (List Int)) (ds : List Deferred) (W : World) : Prop where
  ext : Ext w W
  rb : W.heap[w.heap.size]? = some (.cells (r.cells hv).toArray 39)
  fb : W.heap[w.heap.size + 1]? = some (.cells #[.slice none 0 0, .slice none 0 0, .slice none 0 0] 108)
  out : OutM r.houses.length ob hb (ob + 1) vals lss W
  marks : MarksAt w.heap.size ds W
  lo : w.heap.size + 1 < hb ∧ hb < ob
theorem SI.keep {r : Round} {hv : Value} {w : World} {ob hb : Nat} {vals : List Value} {lss : List (List Int)} {ds : List Deferred} {W W' : World} (h : SI r hv w ob hb vals lss ds W) (k : Ext W W') : SI r hv w ob hb vals lss ds W' :=
  ⟨h.ext.trans k, (k.block (Array.getElem?_eq_some_iff.1 h.rb).1).trans h.rb, (k.block (Array.getElem?_eq_some_iff.1 h.fb).1).trans h.fb, h.out.ext k, h.marks.ext k, h.lo⟩
/-- A step on a set of the search's own. -/
theorem SI.set {r : Round} {hv : Value} {w : World} {ob hb : Nat} {vals : List Value} {lss : List (List Int)} {ds : List Deferred} {W W' : World} {b : Nat} (h : SI r hv w ob hb vals lss ds W) (hg : W.grownBy W' (some b)) (hb' : w.heap.size ≤ b)
    (ho : ∃ o : Obj, W.heap[b]? = some o ∧ o.isCells = false ∧ ∀ l, o ≠ .deferred l) : SI r hv w ob hb vals lss ds W' := by
  obtain ⟨o, h1, h2, h3⟩ := ho
  have hne : ∀ (k : Nat) (c : Array Value) (t : TypeId), W.heap[k]? = some (.cells c t) → some k ≠ some b := fun k c t hk e => by
    cases e; rw [h1] at hk; cases hk; cases h2
  exact ⟨h.ext.grown hg (fun k hk => by cases hk; exact hb'), (hg.block _ (Array.getElem?_eq_some_iff.1 h.rb).1 (hne _ _ _ h.rb)).trans h.rb, (hg.block _ (Array.getElem?_eq_some_iff.1 h.fb).1 (hne _ _ _ h.fb)).trans h.fb,
    h.out.kept hg (fun k hk => by cases hk; exact ⟨o, h1, h2⟩), h.marks.grown hg (fun k hk e => by cases hk; rw [h1] at e; cases e; exact h3 _ rfl), h.lo⟩
/-- A row of another type grows. -/
theorem SI.row {r : Round} {hv : Value} {w : World} {ob hb : Nat} {vals : List Value} {lss : List (List Int)} {ds : List Deferred} {W W' : World} {v : Value} {k : Nat} {xs : List Value} {e : TypeId} (h : SI r hv w ob hb vals lss ds W) (ho : W.ownsRow (ob + 1) e 1 v k xs) (he : e ≠ 3) (hg : W.grownBy W' v.ownBlock) : SI r hv w ob hb vals lss ds W' := by
  have hlow : ∀ b, b < ob + 1 → some b ≠ v.ownBlock := fun b ha e => by have := owns_block ho _ e.symm; omega
  have hlo := h.lo
  refine ⟨h.ext.grown hg (fun k hk => by have := owns_block ho k hk; omega), (hg.block _ (Array.getElem?_eq_some_iff.1 h.rb).1 (hlow _ (by omega))).trans h.rb, (hg.block _ (Array.getElem?_eq_some_iff.1 h.fb).1 (hlow _ (by omega))).trans h.fb, h.out.other ho he hg, h.marks.grown hg (fun b hb' hd => ?_), h.lo⟩
  rcases ho.2 with ⟨rfl, _⟩ | ⟨g, cap, cur, rfl, _, hh, _⟩
  · simp [Value.ownBlock] at hb'
  · have : g = b := by simpa [Value.ownBlock] using hb'
    subst this; rw [hh] at hd; cases hd
/-- A number is laid into one of the rows. -/
theorem SI.push {r : Round} {hv : Value} {w : World} {ob hb : Nat} {vals : List Value} {lss : List (List Int)} {ds : List Deferred} {W W1 W4 : World} {i g cap : Nat} {v : Value} {xs : List Int} {x : Int} {t : TypeId} (h : SI r hv w ob hb vals lss ds W) (hx : Ext W W1) (hv' : vals[i]? = some v) (hl : lss[i]? = some xs)
    (own : W4.ownsRow (ob + 1) 3 1 (.slice (some ⟨g, 0, none⟩) (xs.length + 1) cap) (xs.length + 1) (xs.map (.int .i64) ++ [.int .i64 x])) (hg : (W1.alloc (.cells #[.int .i64 x] t)).grownBy W4 v.ownBlock) (hloc : v.ownBlock = some g ∨ g = W1.heap.size + 1) :
    (W4.cell? (slotA r.houses.length ob hb i) = some v ∧ W4.frozen? (slotA r.houses.length ob hb i) = false ∧ W4.cell? ⟨ob, 0, none⟩ = some (.slice (some ⟨hb, 0, none⟩) r.houses.length r.houses.length)) ∧
    SI r hv w ob hb (vals.set i (.slice (some ⟨g, 0, none⟩) (xs.length + 1) cap)) (lss.set i (xs ++ [x])) ds (W4.setCell (slotA r.houses.length ob hb i) (.slice (some ⟨g, 0, none⟩) (xs.length + 1) cap)) := by
  obtain ⟨h1, h2⟩ := h.out.push hx hv' hl own hg hloc
  have hlo := h.lo
  have hrow := h.out.pool.own i v xs hv' hl
  have hx2 : Ext W (W1.alloc (.cells #[.int .i64 x] t)) := hx.alloc _
  have hlow : ∀ b, b < ob + 1 → some b ≠ v.ownBlock := fun b ha e => by have := owns_block hrow _ e.symm; omega
  have hsb : ∀ b, b < hb → b ≠ (slotA r.houses.length ob hb i).block := fun b hb' e => by rcases slotA_block r.houses.length ob hb i with e' | e' <;> omega
  have blk : ∀ (b : Nat) (c : Array Value) (ty : TypeId), b < hb → W.heap[b]? = some (.cells c ty) → (W4.setCell (slotA r.houses.length ob hb i) (.slice (some ⟨g, 0, none⟩) (xs.length + 1) cap)).heap[b]? = some (.cells c ty) := fun b c ty hb' hh => by
    rw [Below.heap_setCell W4 _ _ b (hsb b hb'), hg.block b (by have := (Array.getElem?_eq_some_iff.1 hh).1; have := hx2.size; omega) (hlow b (by omega)), hx2.block (Array.getElem?_eq_some_iff.1 hh).1]; exact hh
  have hE4 : Ext w W4 := (h.ext.trans hx2).grown hg (fun k hk => by have := owns_block hrow k hk; omega)
  refine ⟨h1, hE4.setCell (by rcases slotA_block r.houses.length ob hb i with e | e <;> omega) _, blk _ _ _ (by omega) h.rb, blk _ _ _ (by omega) h.fb, h2, ?_, h.lo⟩
  refine ((h.marks.ext hx2).grown hg (fun b hb' hd => ?_)).setCell h1.1
  rcases hrow.2 with ⟨rfl, _⟩ | ⟨g', cap', cur, rfl, _, hh, _⟩
  · simp [Value.ownBlock] at hb'
  · have : g' = b := by simpa [Value.ownBlock] using hb'
    subst this
    rw [hx2.block (Array.getElem?_eq_some_iff.1 hh).1, hh] at hd; cases hd
end Go.Proofs.YtapkbonlijhmjaaGreatDoor

/- search: how it starts and what it returns. -/
namespace Go.Proofs.YtapkbonlijhmjaaGreatDoor
open Go.RowKit

theorem rangeLeft_le {W : World} {b r : Nat} {S L : Int → Prop} (h : RangeAt W b r S L) : W.rangeLeft b r ≤ 20001 := by
  obtain ⟨D, left, cnt, ⟨es, clock, since, seen, c0, a1, a2, a3, a4, a5, a6⟩, h2, h3⟩ := h
  unfold World.rangeLeft
  rw [a1, a5]
  have : (leftOf es seen).size ≤ es.size := by unfold leftOf; exact Array.size_filter_le
  simp only; omega

theorem nil_at {n j : Nat} {v : Value} (h : (List.replicate (n + 2) (Value.slice none 0 0))[j]? = some v) : v = .slice none 0 0 := by
  rw [List.getElem?_replicate] at h; split at h <;> simp at h; exact h.symm
theorem nil_at' {n j : Nat} {v : List Int} (h : (List.replicate (n + 2) ([] : List Int))[j]? = some v) : v = [] := by
  rw [List.getElem?_replicate] at h; split at h <;> simp at h; exact h
theorem out_start {base n hb : Nat} {W1 : World} (hown : W1.ownsRow base 106 1 (.slice (some ⟨hb, 0, none⟩) n n) n (madeCells (Value.slice none 0 0).cells (n * 1)).toList) (_hn : 1 ≤ n) :
    OutM n W1.heap.size hb (W1.heap.size + 1) (List.replicate (n + 2) (.slice none 0 0)) (List.replicate (n + 2) []) (W1.alloc (.cells #[.slice (some ⟨hb, 0, none⟩) n n, .slice none 0 0, .slice none 0 0] 108)) := by
  have hlt := (World.ownsRow.lt hown hb rfl).2
  refine ⟨⟨by simp, fun i v xs hv hx => ?_, fun i j u v _ hu hv g hg => ?_⟩, by simp, by go_simp, fun i v hv => ?_, ⟨by omega, by omega⟩, by omega⟩
  · rw [nil_at hv, nil_at' hx]; exact World.ownsRow_nil _ _ _ _
  · rw [nil_at hu] at hg; simp [Value.ownBlock] at hg
  · have hi : i < n + 2 := by have := (List.getElem?_eq_some_iff.1 hv).1; simpa using this
    rw [nil_at hv]
    unfold slotA
    split
    · rename_i h
      have h1 := hown.cellAt i (by omega)
      have h2 := hown.frozenAt i
      have hc : (madeCells (Value.slice none 0 0).cells (n * 1)).toList[i]? = some (.slice none 0 0) := by
        simp [madeCells, Value.cells, h, Nat.mod_one]
      have hX : Ext W1 (W1.alloc (.cells #[.slice (some ⟨hb, 0, none⟩) n n, .slice none 0 0, .slice none 0 0] 108)) := (Ext.refl _).alloc _
      exact ⟨hX.cell (h1.trans hc), (hX.frozen hlt).trans h2⟩
    · split
      · exact ⟨by go_simp, by go_simp⟩
      · exact ⟨by go_simp, by go_simp⟩
theorem col_start (n : Nat) : Col n (List.replicate (n + 2) []) (fun _ _ => False) (fun _ => False) (fun _ => False) :=
  ⟨fun i hi => ⟨[], by rw [List.getElem?_replicate]; simp; omega, fun m => by simp⟩, ⟨[], by rw [List.getElem?_replicate]; simp, fun m => by simp⟩, ⟨[], by rw [List.getElem?_replicate]; simp, fun m => by simp⟩⟩
theorem len_start (n : Nat) : LenLe (List.replicate (n + 2) []) 0 := fun i xs hx => by rw [nil_at' hx]; simp

/-- What search returns, read off the memory. -/
def FoundAt (B : Nat) (W : World) (v : Value) (n : Nat) (lss : List (List Int)) : Prop := ∃ (hb : Nat) (vals : List Value), (vals.length = n + 2 ∧ B ≤ hb ∧ ∀ u, u ∈ vals → ∀ g, u.ownBlock = some g → B ≤ g) ∧ v = .agg #[.slice (some ⟨hb, 0, none⟩) n n, vals.getD n undef, vals.getD (n + 1) undef] ∧ n ≤ maxLen ∧
  (∀ i, i < n → W.cell? ⟨hb, i, none⟩ = vals[i]?) ∧ ∀ (i : Nat) (u : Value) (xs : List Int), vals[i]? = some u → lss[i]? = some xs → IntsAt W u xs
theorem FoundAt.ext {B : Nat} {W W' : World} {v : Value} {n : Nat} {lss : List (List Int)} (h : FoundAt B W v n lss) (k : Ext W W') : FoundAt B W' v n lss := by
  obtain ⟨hb, vals, h1, h2, h3, h4, h5⟩ := h
  refine ⟨hb, vals, h1, h2, h3, fun i hi => ?_, fun i u xs hu hx => (h5 i u xs hu hx).ext k⟩
  obtain ⟨u, hu⟩ : ∃ u, vals[i]? = some u := ⟨_, List.getElem?_eq_getElem (by have := h1.1; omega)⟩
  rw [hu]; exact k.cell ((h4 i hi).trans hu)
theorem OutM.len {n ob hb B : Nat} {vals : List Value} {lss : List (List Int)} {W : World} (h : OutM n ob hb B vals lss W) : lss.length = n + 2 := by rw [← h.pool.len]; exact h.n2
theorem OutM.found {n ob hb B B0 : Nat} {vals : List Value} {lss : List (List Int)} {W : World} (h : OutM n ob hb B vals lss W) (hn : n ≤ maxLen) (hb0 : B0 ≤ hb) (hB0 : B0 ≤ B) : FoundAt B0 W (.agg #[.slice (some ⟨hb, 0, none⟩) n n, vals.getD n undef, vals.getD (n + 1) undef]) n lss := by
  have hl := h.n2
  refine ⟨hb, vals, ⟨h.n2, hb0, fun u hu g hg => ?_⟩, rfl, hn, fun i hi => ?_, fun i u xs hu hx => IntsAt.of_owns (h.pool.own i u xs hu hx)⟩
  · obtain ⟨i, hi⟩ := List.mem_iff_getElem?.1 hu
    obtain ⟨xs, hx⟩ := h.pool.at hi
    exact Nat.le_trans hB0 (owns_block (h.pool.own i u xs hi hx) g hg)
  obtain ⟨u, hu⟩ : ∃ u, vals[i]? = some u := ⟨_, List.getElem?_eq_getElem (by omega)⟩
  have := (h.c i u hu).1
  unfold slotA at this; rw [if_pos hi] at this; rw [this, hu]
/-- The cells of the box found. -/
theorem OutM.cells {n ob hb B : Nat} {vals : List Value} {lss : List (List Int)} {W : World} (h : OutM n ob hb B vals lss W) :
    W.cell? ⟨ob, 0, none⟩ = some (.slice (some ⟨hb, 0, none⟩) n n) ∧ W.cell? ⟨ob, 1, none⟩ = some (vals.getD n undef) ∧ W.cell? ⟨ob, 2, none⟩ = some (vals.getD (n + 1) undef) := by
  have hl := h.n2
  have h1 := (h.c n _ (List.getElem?_eq_getElem (show n < vals.length by omega))).1
  have h2 := (h.c (n + 1) _ (List.getElem?_eq_getElem (show n + 1 < vals.length by omega))).1
  unfold slotA at h1 h2
  rw [if_neg (by omega), if_pos rfl] at h1
  rw [if_neg (by omega), if_neg (by omega)] at h2
  exact ⟨h.c0, by rw [h1]; simp [List.getD, show n < vals.length by omega], by rw [h2]; simp [List.getD, show n + 1 < vals.length by omega]⟩

theorem two_new (w : World) (X Y : Obj) : ((w.alloc X).alloc Y).heap[w.heap.size]? = some X ∧ ((w.alloc X).alloc Y).heap[w.heap.size + 1]? = some Y :=
  ⟨(Below.heap_alloc _ _ _ (by simp)).trans (World.alloc_heap_new w _), by have := World.alloc_heap_new (w.alloc X) Y; rwa [World.size_alloc] at this⟩
theorem SI.r {r : Round} {hv : Value} {w : World} {ob hb : Nat} {vals : List Value} {lss : List (List Int)} {ds : List Deferred} {W : World} (h : SI r hv w ob hb vals lss ds W) :
    W.cell? ⟨w.heap.size, 0, none⟩ = some (.int .i64 r.per) ∧ W.cell? ⟨w.heap.size, 1, none⟩ = some (.int .i64 r.lo) ∧ W.cell? ⟨w.heap.size, 2, none⟩ = some (.int .i64 r.hi) ∧ W.cell? ⟨w.heap.size, 3, none⟩ = some (.int .i64 r.card) ∧ W.cell? ⟨w.heap.size, 4, none⟩ = some (.int .i64 r.slack) ∧
    W.cell? ⟨w.heap.size, 5, none⟩ = some hv ∧ W.cell? ⟨w.heap.size, 6, none⟩ = some (.int .i64 r.all) ∧ W.cell? ⟨w.heap.size, 7, none⟩ = some (.int .i64 r.off) := by
  have h0 := h.rb
  simp [World.cell?, h0, Round.cells]

/-! ### The whole state at the head of the first loop -/
def perB : Nat := 4 * (20001 * 202) + 1
structure SrchI (r : Round) (hv : Value) (w : World) (ob hb : Nat) (free b : Int) (vals : List Value) (lss : List (List Int)) (ds : List Deferred) (W : World) : Prop where
  si : SI r hv w ob hb vals lss ds W
  col : Col r.houses.length lss (houseR r free b) (allR r free b) (buttonR r free b)
  len : LenLe lss ((b - r.lo).toNat * perB)
theorem houseR_lo {r : Round} {free : Int} (i : Nat) (m : Int) : ¬ houseR r free r.lo i m := by rintro ⟨b, h1, h2, _⟩; omega
theorem allR_lo {r : Round} {free : Int} (m : Int) : ¬ allR r free r.lo m := by rintro ⟨b, h1, h2, _⟩; omega
theorem buttonR_lo {r : Round} {free : Int} (m : Int) : ¬ buttonR r free r.lo m := by rintro ⟨h1, h2, _⟩; omega
theorem si_start {r : Round} {hv : Value} {w W0 W1 : World} {hb : Nat} {free : Int} (hx : Ext w W0) (hr : W0.heap[w.heap.size]? = some (.cells (r.cells hv).toArray 39)) (hf : W0.heap[w.heap.size + 1]? = some (.cells #[.slice none 0 0, .slice none 0 0, .slice none 0 0] 108))
    (hg : W0.grownBy W1 none) (hb0 : w.heap.size + 1 < hb) (hown : W1.ownsRow hb 106 1 (.slice (some ⟨hb, 0, none⟩) r.houses.length r.houses.length) r.houses.length (madeCells (Value.slice none 0 0).cells (r.houses.length * 1)).toList) (hn : 1 ≤ r.houses.length) :
    SrchI r hv w W1.heap.size hb free r.lo (List.replicate (r.houses.length + 2) (.slice none 0 0)) (List.replicate (r.houses.length + 2) []) [] (W1.alloc (.cells #[.slice (some ⟨hb, 0, none⟩) r.houses.length r.houses.length, .slice none 0 0, .slice none 0 0] 108)) := by
  have hx1 : Ext W0 W1 := (Ext.refl W0).grown hg (fun k hk => by cases hk)
  have hlt := (World.ownsRow.lt hown hb rfl).2
  refine ⟨⟨(hx.trans hx1).alloc _, ?_, ?_, out_start hown hn, MarksAt.nil _ _, ⟨hb0, hlt⟩⟩, (col_start _).congr (fun i m _ => ?_) (fun m => ?_) (fun m => ?_), by rw [Int.sub_self]; simpa using len_start _⟩
  · exact (Below.heap_alloc _ _ _ (by omega)).trans ((hx1.block (Array.getElem?_eq_some_iff.1 hr).1).trans hr)
  · exact (Below.heap_alloc _ _ _ (by omega)).trans ((hx1.block (Array.getElem?_eq_some_iff.1 hf).1).trans hf)
  · exact ⟨fun h => h.elim, fun h => (houseR_lo i m h).elim⟩
  · exact ⟨fun h => h.elim, fun h => (allR_lo m h).elim⟩
  · exact ⟨fun h => h.elim, fun h => (buttonR_lo m h).elim⟩
def SearchRes (r : Round) (free : Int) (w : World) (e : Ending) (w' : World) : Prop :=
  ∃ v lss, e = .returned v ∧ Ext w w' ∧ lss.length = r.houses.length + 2 ∧ FoundAt w.heap.size w' v r.houses.length lss ∧ Col r.houses.length lss (houseR r free (r.hi + 1)) (allR r free (r.hi + 1)) (buttonR r free (r.hi + 1))
theorem info_numbers : (Tryz.prog.info? 106).map (fun i => (i.zero, i.size, i.bytes)) = some (some (.slice none 0 0), 1, 24) := by kernel_rfl
end Go.Proofs.YtapkbonlijhmjaaGreatDoor

/- search: what each house can have brought; the round over one house. -/
namespace Go.Proofs.YtapkbonlijhmjaaGreatDoor
open Go.RowKit

theorem way_good {r : Round} {button : Int} {h : House} {free : Bool} {x : Int × Int} (hr : RoundB r) (hb : badHouse h = false) (hx : x ∈ waysOf r button h free) :
    (0 ≤ x.1 ∧ x.1 ≤ 60) ∧ (-1000000 ≤ x.2 ∧ x.2 ≤ 1000000) ∧ 0 ≤ nOf r x.1 x.2 ∧ nOf r x.1 x.2 ≤ 20000 := by
  have hbd := badHouse_iff.1 hb
  have hp1 := hr.p1
  have hp2 := hr.p2
  unfold waysOf at hx
  rw [List.mem_flatMap] at hx
  obtain ⟨f, hf, hx⟩ := hx
  rw [List.mem_filter] at hx
  obtain ⟨hx, _⟩ := hx
  unfold rowOf at hx
  rw [List.mem_map] at hx
  obtain ⟨j, hj, rfl⟩ := hx
  rw [List.mem_range] at hf hj
  have e1 : 0 ≤ r.per * (f : Int) := Int.mul_nonneg (by omega) (by omega)
  have e2 : r.per * (f : Int) ≤ 36 * 60 := Int.mul_le_mul hp2 (by omega) (by omega) (by omega)
  unfold nOf
  simp only
  omega
/-- The numbers of the first k ways. -/
def firstS (r : Round) (button : Int) (h : House) (free : Bool) (k : Nat) : Int → Prop := fun n => ∃ (j : Nat) (x : Int × Int), j < k ∧ (waysOf r button h free)[j]? = some x ∧ n = nOf r x.1 x.2
theorem firstS_zero {r : Round} {button : Int} {h : House} {free : Bool} (n : Int) : False ↔ firstS r button h free 0 n := ⟨fun h => h.elim, fun ⟨j, x, hj, _⟩ => by omega⟩
theorem firstS_succ {r : Round} {button : Int} {h : House} {free : Bool} {k : Nat} {x : Int × Int} (hx : (waysOf r button h free)[k]? = some x) (n : Int) : (firstS r button h free k n ∨ n = nOf r x.1 x.2) ↔ firstS r button h free (k + 1) n := by
  unfold firstS; constructor
  · rintro (⟨j, y, h1, h2, h3⟩ | rfl)
    · exact ⟨j, y, by omega, h2, h3⟩
    · exact ⟨k, x, by omega, hx, rfl⟩
  · rintro ⟨j, y, h1, h2, h3⟩
    by_cases e : j = k
    · subst e; rw [hx] at h2; cases h2; exact .inr h3
    · exact .inl ⟨j, y, by omega, h2, h3⟩
theorem firstS_all {r : Round} {button : Int} {free : Int} {i : Nat} {h : House} (hh : r.houses[i]? = some h) (n : Int) : firstS r button h (decide ((i : Int) = free)) (waysOf r button h (decide ((i : Int) = free))).length n ↔ ownS r free button i n := by
  unfold firstS ownS; constructor
  · rintro ⟨j, x, h1, h2, h3⟩; exact ⟨h, hh, x, List.mem_of_getElem? h2, h3⟩
  · rintro ⟨h', h1, x, h2, h3⟩
    rw [hh] at h1; cases h1
    obtain ⟨j, hj⟩ := List.mem_iff_getElem?.1 h2
    exact ⟨j, x, (List.getElem?_eq_some_iff.1 hj).1, hj, h3⟩

/-- What lies in memory while the ways are gone through: sb is the set. -/
structure WayI (r : Round) (button : Int) (h : House) (free : Bool) (sb : Nat) (W0 : World) (k : Nat) (W : World) : Prop where
  touch : Touch (fun i => i = sb) W0 W
  set : SetAt W sb (firstS r button h free k)
theorem WayI.quiet {r : Round} {button : Int} {h : House} {free : Bool} {sb : Nat} {W0 : World} {k n : Nat} {A B : World} (hi : WayI r button h free sb W0 k A) (q : Quiet n A B) (hn : W0.heap.size ≤ n) (hs : sb < n) : WayI r button h free sb W0 k B :=
  ⟨⟨q.os.trans hi.touch.os, q.tape.trans hi.touch.tape, q.output.trans hi.touch.output, Nat.le_trans hi.touch.size q.size, fun j o h1 h2 => q.keep j o (hi.touch.keep j o h1 h2) (.inl (by have := (Array.getElem?_eq_some_iff.1 h1).1; omega))⟩,
   hi.set.block (by
    have hl := hi.set.lt
    have ho := Array.getElem?_eq_getElem hl
    rw [ho]; exact q.keep sb _ ho (.inl hs))⟩

/-- The sets of the first k houses, in a slice. -/
structure OwnI (r : Round) (free b : Int) (B : Nat) (ov : Value) (k : Nat) (bs : List Nat) (W : World) : Prop where
  own : W.ownsRow B 160 1 ov k (bs.map mapV)
  len : bs.length = k
  sets : ∀ (i s : Nat), bs[i]? = some s → SetAt W s (ownS r free b i)
theorem OwnI.ext {r : Round} {free b : Int} {B : Nat} {ov : Value} {k : Nat} {bs : List Nat} {W W' : World} (h : OwnI r free b B ov k bs W) (hx : Ext W W') : OwnI r free b B ov k bs W' :=
  ⟨owns_ext h.own hx, h.len, fun i s hs => (h.sets i s hs).ext hx⟩
theorem OwnI.nil (r : Round) (free b : Int) (B : Nat) (W : World) : OwnI r free b B (.slice none 0 0) 0 [] W := ⟨World.ownsRow_nil _ _ _ _, rfl, fun i s h => by simp at h⟩
theorem OwnI.push {r : Round} {free b : Int} {B : Nat} {ov : Value} {k : Nat} {bs : List Nat} {W W2 W4 : World} {s2 g cap : Nat} (h : OwnI r free b B ov k bs W) (hx : Ext W W2) (hs : SetAt W2 s2 (ownS r free b k))
    (hown : W4.ownsRow B 160 1 (.slice (some ⟨g, 0, none⟩) (k + 1) cap) (k + 1) (bs.map mapV ++ [.map (some s2)])) (hg : (W2.alloc (.cells #[.map (some s2)] 160)).grownBy W4 ov.ownBlock) : OwnI r free b B (.slice (some ⟨g, 0, none⟩) (k + 1) cap) (k + 1) (bs ++ [s2]) W4 := by
  have ho2 := owns_ext h.own hx
  have key : ∀ (c : Nat) (S : Int → Prop), SetAt W2 c S → SetAt W4 c S := fun c S hc =>
    (hc.ext ((Ext.refl _).alloc _)).kept hg (set_ne_row hc ho2)
  refine ⟨by rw [List.map_append]; exact hown, by simp [h.len], fun i c hc => ?_⟩
  rcases Nat.lt_or_ge i k with hi | hi
  · rw [List.getElem?_append_left (by rw [h.len]; exact hi)] at hc
    exact key c _ ((h.sets i c hc).ext hx)
  · have : i = k := by
      have := (List.getElem?_eq_some_iff.1 hc).1
      rw [List.length_append, h.len, List.length_singleton] at this; omega
    subst this
    rw [List.getElem?_append_right (by rw [h.len]; omega), h.len] at hc
    simp at hc; subst hc
    exact key _ _ hs
theorem OwnI.sets_all {r : Round} {free b : Int} {B : Nat} {ov : Value} {bs : List Nat} {W : World} (h : OwnI r free b B ov r.houses.length bs W) : SetsAt W ov (ownSs r free b) := by
  have hl : (ownSs r free b).length = r.houses.length := by simp [ownSs]
  refine ⟨bs, by rw [hl, h.len], by rw [hl]; exact RowAt.of_owns h.own, fun i s hs => ?_⟩
  have hi : i < r.houses.length := by have := (List.getElem?_eq_some_iff.1 hs).1; rw [h.len] at this; exact this
  rw [ownSs_at hi]; exact h.sets i s hs
/-- A box of one weight. -/
def WeighBox (r : Round) (hv : Value) (b : Int) (wb : Nat) (W : World) : Prop := W.heap[wb]? = some (.cells #[.int .i64 r.per, .int .i64 r.lo, .int .i64 r.hi, .int .i64 r.card, .int .i64 r.slack, hv, .int .i64 r.all, .int .i64 r.off, .int .i64 b] 123)
theorem WeighBox.ext {r : Round} {hv : Value} {b : Int} {wb : Nat} {W W' : World} (h : WeighBox r hv b wb W) (k : Ext W W') : WeighBox r hv b wb W' := (k.block (Array.getElem?_eq_some_iff.1 h).1).trans h
theorem WeighBox.r {r : Round} {hv : Value} {b : Int} {wb : Nat} {W : World} (h : WeighBox r hv b wb W) :
    W.cell? ⟨wb, 0, none⟩ = some (.int .i64 r.per) ∧ W.cell? ⟨wb, 1, none⟩ = some (.int .i64 r.lo) ∧ W.cell? ⟨wb, 2, none⟩ = some (.int .i64 r.hi) ∧ W.cell? ⟨wb, 3, none⟩ = some (.int .i64 r.card) ∧ W.cell? ⟨wb, 4, none⟩ = some (.int .i64 r.slack) ∧
    W.cell? ⟨wb, 5, none⟩ = some hv ∧ W.cell? ⟨wb, 6, none⟩ = some (.int .i64 r.all) ∧ W.cell? ⟨wb, 7, none⟩ = some (.int .i64 r.off) ∧ W.cell? ⟨wb, 8, none⟩ = some (.int .i64 b) := by
  simp [World.cell?, show W.heap[wb]? = _ from h]
theorem WeighBox.row {r : Round} {hv : Value} {b : Int} {wb : Nat} {W W' : World} {v : Value} {B k : Nat} {xs : List Value} {e : TypeId} (h : WeighBox r hv b wb W) (ho : W.ownsRow B e 1 v k xs) (he : e ≠ 123) (hg : W.grownBy W' v.ownBlock) : WeighBox r hv b wb W' := by
  refine (hg.block _ (Array.getElem?_eq_some_iff.1 h).1 (fun e2 => ?_)).trans h
  rcases ho.2 with ⟨rfl, _⟩ | ⟨g, cap, cur, rfl, _, hh, _⟩
  · simp [Value.ownBlock] at e2
  · have : wb = g := by simpa [Value.ownBlock] using e2
    subst this
    rw [show W.heap[wb]? = _ from h] at hh; cases hh; exact he rfl
theorem WeighBox.grown {r : Round} {hv : Value} {b : Int} {wb : Nat} {W W' : World} {sb : Nat} (h : WeighBox r hv b wb W) (hg : W.grownBy W' (some sb)) (hn : wb ≠ sb) : WeighBox r hv b wb W' :=
  (hg.block _ (Array.getElem?_eq_some_iff.1 h).1 (fun e => hn (by simpa using e))).trans h
theorem Touch.grown1 {sb : Nat} {A B : World} (h : Touch (fun i => i = sb) A B) : A.grownBy B (some sb) :=
  ⟨h.os, h.tape, h.output, h.size, fun k hk hn => by
    have ho := Array.getElem?_eq_getElem hk
    rw [ho]; exact h.keep k _ ho (fun e => hn (by rw [e]))⟩
theorem MarksAt.cons {B : Nat} {ds : List Deferred} {W W' : World} {D : Nat} (h : MarksAt B ds W) (hB : B ≤ W.heap.size) (k : ∀ D : Nat, W.heap[D]? = mark0 → W'.heap[D]? = mark0) (hD : W.heap.size ≤ D) (hd : W'.heap[D]? = mark0) : MarksAt B ({ target := .collected D, args := #[] } :: ds) W' := by
  obtain ⟨Ds, h1, h2, h3⟩ := h
  refine ⟨D :: Ds, by rw [h1]; rfl, ⟨List.nodup_cons.2 ⟨fun hm => ?_, h2.1⟩, fun E hE => ?_⟩, fun E hE => ?_⟩
  · have := (Array.getElem?_eq_some_iff.1 (h3 D hm)).1; omega
  · rcases List.mem_cons.1 hE with rfl | hE
    · omega
    · exact h2.2 E hE
  · rcases List.mem_cons.1 hE with rfl | hE
    · exact hd
    · exact k E (h3 E hE)
/-- All that a house's round changes, but for the slice own. -/
theorem SI.ways {r : Round} {hv : Value} {w : World} {ob hb : Nat} {vals : List Value} {lss : List (List Int)} {ds : List Deferred} {Wq W1 W : World} {sb D k : Nat} {button : Int} {h : House} {free : Bool} (hs : SI r hv w ob hb vals lss ds Wq) (hx : Ext Wq W1) (hsb : Wq.heap.size ≤ sb)
    (hm : SetAt W1 sb (fun _ => False)) (hi : WayI r button h free sb W1 k W) (hD : W1.heap.size ≤ D) (hd : W.heap[D]? = some (.deferred (some []))) : SI r hv w ob hb vals lss ({ target := .collected D, args := #[] } :: ds) W := by
  have hg := hi.touch.grown1
  have hz := hs.ext.size
  obtain ⟨D0, ⟨es, clock, hb0, _⟩, _⟩ := hm
  have h2 := (hs.keep hx).set hg (by omega) ⟨_, hb0, rfl, fun l e => by cases e⟩
  refine ⟨h2.ext, h2.rb, h2.fb, h2.out, ?_, h2.lo⟩
  refine hs.marks.cons hz (fun E hE => ?_) (by have := hx.size; omega) hd
  have hl := (Array.getElem?_eq_some_iff.1 hE).1
  exact (hg.block E (by have := hx.size; omega) (fun e => by have : E = sb := by simpa using e
                                                             omega)).trans ((hx.block hl).trans hE)
end Go.Proofs.YtapkbonlijhmjaaGreatDoor

/- search: what its last loops keep: sets, slices of sets, iterators. -/
namespace Go.Proofs.YtapkbonlijhmjaaGreatDoor
open Go.RowKit

/-- All that is no cell, and all slices of sets from B on, lie as they were. -/
def NC (B : Nat) (W W' : World) : Prop := ∀ (k : Nat) (o : Obj), W.heap[k]? = some o → (o.isCells = false ∨ (B ≤ k ∧ ∃ c f, o = .cells c 160 f)) → W'.heap[k]? = some o
theorem NC.refl (B : Nat) (W : World) : NC B W W := fun _ _ h _ => h
theorem NC.trans {B : Nat} {W1 W2 W3 : World} (h : NC B W1 W2) (k : NC B W2 W3) : NC B W1 W3 := fun i o ho hc => k i o (h i o ho hc) hc
theorem NC.of_ext {B : Nat} {W W' : World} (h : Ext W W') : NC B W W' := fun _ _ ho _ => (h.block (Array.getElem?_eq_some_iff.1 ho).1).trans ho
theorem NC.row {B base k : Nat} {W W' : World} {v : Value} {xs : List Value} (ho : W.ownsRow base 3 1 v k xs) (hg : W.grownBy W' v.ownBlock) : NC B W W' := fun i o hi hc => by
  refine (hg.block i (Array.getElem?_eq_some_iff.1 hi).1 (fun e => ?_)).trans hi
  rcases ho.2 with ⟨rfl, _⟩ | ⟨g, cap, cur, rfl, _, hh, _⟩
  · simp [Value.ownBlock] at e
  · have : i = g := by simpa [Value.ownBlock] using e
    subst this
    rw [hh] at hi; cases hi
    rcases hc with hc | ⟨_, c, f, hc⟩
    · cases hc
    · simp at hc
theorem NC.setCell {B : Nat} {W : World} {a : Addr} {u v : Value} (hc : W.cell? a = some u) (ha : a.block < B) : NC B W (W.setCell a v) := fun i o hi hk => by
  refine (Below.heap_setCell W a v i (fun e => ?_)).trans hi
  obtain ⟨o', ho, hi'⟩ := cells_of_cell hc
  rcases hk with hk | ⟨hk, _⟩
  · rw [← e, hi] at ho; cases ho; rw [hk] at hi'; cases hi'
  · omega
/-- A slice of sets of one's own. -/
structure SetsOwn (F : Nat → Int → Prop) (B : Nat) (v : Value) (n : Nat) (bs : List Nat) (W : World) : Prop where
  own : W.ownsRow B 160 1 v n (bs.map mapV)
  len : bs.length = n
  sets : ∀ (i s : Nat), bs[i]? = some s → SetAt W s (F i)
theorem SetAt.nc {B : Nat} {W W' : World} {b : Nat} {S : Int → Prop} (h : SetAt W b S) (k : NC B W W') : SetAt W' b S := by
  obtain ⟨o, h1, h2⟩ := h.obj
  exact h.block ((k b o h1 (.inl h2)).trans h1.symm)
theorem SetsOwn.nc {F : Nat → Int → Prop} {B n : Nat} {v : Value} {bs : List Nat} {W W' : World} (h : SetsOwn F B v n bs W) (k : NC B W W') : SetsOwn F B v n bs W' := by
  refine ⟨⟨h.own.1, ?_⟩, h.len, fun i s hs => (h.sets i s hs).nc k⟩
  rcases h.own.2 with h1 | ⟨g, cap, cur, h1, h2, h3, h4⟩
  · exact .inl h1
  · exact .inr ⟨g, cap, cur, h1, h2, k g _ h3 (.inr ⟨h2, _, _, rfl⟩), h4⟩
theorem RangeAt.nc {B : Nat} {W W' : World} {b r : Nat} {S L : Int → Prop} (h : RangeAt W b r S L) (k : NC B W W') : RangeAt W' b r S L := by
  obtain ⟨o, h1, h2⟩ := h.set.obj
  obtain ⟨o', h3, h4⟩ := h.iter
  exact h.block ((k b o h1 (.inl h2)).trans h1.symm) ((k r o' h3 (.inl h4)).trans h3.symm)
theorem RangeAt.left_nc {B : Nat} {W W' : World} {b r : Nat} {S L : Int → Prop} (h : RangeAt W b r S L) (k : NC B W W') : W'.rangeLeft b r = W.rangeLeft b r := by
  obtain ⟨o, h1, h2⟩ := h.set.obj
  obtain ⟨o', h3, h4⟩ := h.iter
  exact rangeLeft_block ((k b o h1 (.inl h2)).trans h1.symm) ((k r o' h3 (.inl h4)).trans h3.symm)
theorem RangeAt.mapIter {W : World} {b r : Nat} {S L : Int → Prop} (h : RangeAt W b r S L) : ∃ x y z u, W.heap[r]? = some (.mapIter x y z u) := by
  obtain ⟨D, left, cnt, ⟨es, clock, since, seen, c0, a1, a2, a3, a4, a5, a6⟩, h2, h3⟩ := h
  exact ⟨_, _, _, _, a5⟩
theorem SetAt.map {W : World} {b : Nat} {S : Int → Prop} (h : SetAt W b S) : ∃ x y, W.heap[b]? = some (.map x y) := by
  obtain ⟨D, ⟨es, clock, hb, _⟩, _⟩ := h; exact ⟨_, _, hb⟩
/-- A step of an iterator. -/
theorem SetsOwn.step {F : Nat → Int → Prop} {B n : Nat} {v : Value} {bs : List Nat} {W W' : World} {b r : Nat} {S L : Int → Prop} (h : SetsOwn F B v n bs W) (hr : RangeAt W b r S L) (hg : W.grownBy W' (some r)) : SetsOwn F B v n bs W' := by
  obtain ⟨x, y, z, u, hi⟩ := hr.mapIter
  refine ⟨h.own.kept hg ?_, h.len, fun i s hs => (h.sets i s hs).kept hg (fun e => ?_)⟩
  · rcases h.own.2 with ⟨rfl, _⟩ | ⟨g, cap, cur, rfl, h2, h3, h4⟩
    · exact .inl rfl
    · refine .inr (fun e => ?_)
      have : g = r := by simpa [Value.ownBlock] using e
      subst this; rw [hi] at h3; cases h3
  · obtain ⟨c, d, hm⟩ := (h.sets i s hs).map
    have : s = r := by simpa using e
    subst this; rw [hi] at hm; cases hm
theorem SI.step {r : Round} {hv : Value} {w : World} {ob hb : Nat} {vals : List Value} {lss : List (List Int)} {ds : List Deferred} {W W' : World} {b q : Nat} {S L : Int → Prop} (h : SI r hv w ob hb vals lss ds W) (hr : RangeAt W b q S L) (hq : w.heap.size ≤ q) (hg : W.grownBy W' (some q)) : SI r hv w ob hb vals lss ds W' := by
  obtain ⟨x, y, z, u, hi⟩ := hr.mapIter
  exact h.set hg hq ⟨_, hi, rfl, fun l e => by cases e⟩
theorem SI.push_nc {r : Round} {hv : Value} {w : World} {ob hb : Nat} {vals : List Value} {lss : List (List Int)} {ds : List Deferred} {W W1 W4 : World} {i g cap : Nat} {v : Value} {xs : List Int} {x : Int} {t : TypeId} (h : SI r hv w ob hb vals lss ds W) (hx : Ext W W1) (hv' : vals[i]? = some v) (hl : lss[i]? = some xs)
    (own : W4.ownsRow (ob + 1) 3 1 (.slice (some ⟨g, 0, none⟩) (xs.length + 1) cap) (xs.length + 1) (xs.map (.int .i64) ++ [.int .i64 x])) (hg : (W1.alloc (.cells #[.int .i64 x] t)).grownBy W4 v.ownBlock) (hloc : v.ownBlock = some g ∨ g = W1.heap.size + 1) :
    NC (ob + 1) W (W4.setCell (slotA r.houses.length ob hb i) (.slice (some ⟨g, 0, none⟩) (xs.length + 1) cap)) := by
  have hx2 : Ext W (W1.alloc (.cells #[.int .i64 x] t)) := hx.alloc _
  have hrow := h.out.pool.own i v xs hv' hl
  have hp := (h.push hx hv' hl own hg hloc).1.1
  have hlo := h.lo
  exact ((NC.of_ext hx2).trans (NC.row (owns_ext hrow hx2) hg)).trans (NC.setCell hp (by rcases slotA_block r.houses.length ob hb i with e | e <;> omega))
/-- The cells that a walk wants to see. -/
theorem SI.f {r : Round} {hv : Value} {w : World} {ob hb : Nat} {vals : List Value} {lss : List (List Int)} {ds : List Deferred} {W : World} (h : SI r hv w ob hb vals lss ds W) :
    W.cell? ⟨w.heap.size + 1, 0, none⟩ = some (.slice none 0 0) ∧ W.cell? ⟨w.heap.size + 1, 1, none⟩ = some (.slice none 0 0) ∧ W.cell? ⟨w.heap.size + 1, 2, none⟩ = some (.slice none 0 0) := by
  have h0 := h.fb
  simp [World.cell?, h0]
theorem SetsOwn.cell {F : Nat → Int → Prop} {B n : Nat} {v : Value} {bs : List Nat} {W : World} (h : SetsOwn F B v n bs W) {i : Nat} (hi : i < n) : ∃ g cap s, v = .slice (some ⟨g, 0, none⟩) n cap ∧ n ≤ cap ∧ cap ≤ maxLen ∧ W.cell? ⟨g, i, none⟩ = some (.map (some s)) ∧ SetAt W s (F i) := by
  have hl := h.len
  rcases h.own.2 with ⟨rfl, h0⟩ | ⟨g, cap, cur, rfl, h2, h3, h4, h5, h6, h7⟩
  · omega
  · have hs : bs[i]? = some (bs[i]'(by omega)) := List.getElem?_eq_getElem (by omega)
    refine ⟨g, cap, bs[i]'(by omega), rfl, h4, h5, ?_, h.sets i _ hs⟩
    rw [h.own.cellAt i (by omega), List.getElem?_map, hs]; rfl
end Go.Proofs.YtapkbonlijhmjaaGreatDoor
