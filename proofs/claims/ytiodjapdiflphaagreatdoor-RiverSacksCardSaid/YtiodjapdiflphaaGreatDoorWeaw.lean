/- Weather: plain facts; a slice of rows that grows and is written in place. -/
import Derived.Test.YtiodjapdiflphaaGreatDoorPats
import Derived.Test.YtiodjapdiflphaaGreatDoorClosed
namespace Go.Proofs.YtiodjapdiflphaaGreatDoor
open Go.RowKit
/-! ### In plain Lean -/
abbrev Rows2 := List (List (Int × Int))
def hulls (p x : Rows2) : Rows2 := List.zipWith (List.zipWith hull) p x
theorem zip_self {α : Type} (f : α → α → α) (hf : ∀ x, f x x = x) : ∀ l : List α, List.zipWith f l l = l
 | [] => rfl
 | x :: l => by rw [List.zipWith_cons_cons, hf, zip_self f hf l]
theorem hull_self (x : Int × Int) : hull x x = x := by unfold hull; simp
theorem hulls_self (x : Rows2) : hulls x x = x := zip_self _ (fun l => zip_self _ hull_self l) x
/-- The weather over the first k truths. -/
def weaTo (b : Book) (s : Sack) (k : Nat) : Rows2 := match (truthsOf b s).take k with
 | [] => []
 | x :: xs => xs.foldl (fun out y => hulls out y.wea) x.wea
def weaPre (b : Book) (s : Sack) (k : Nat) (x : State) : Rows2 := if k = 0 then x.wea else weaTo b s k
theorem weaTo_zero (b : Book) (s : Sack) : weaTo b s 0 = [] := rfl
theorem weaTo_succ {b : Book} {s : Sack} {k : Nat} {x : State} (h : (truthsOf b s)[k]? = some x) : weaTo b s (k + 1) = hulls (weaPre b s k x) x.wea := by
 unfold weaTo weaPre
 rw [List.take_add_one, h]
 cases k with
 | zero => simp [hulls_self]
 | succ k =>
  rw [if_neg (by omega)]
  unfold weaTo
  cases hl : (truthsOf b s).take (k + 1) with
  | nil =>
   have h1 := congrArg List.length hl
   have h2 := (List.getElem?_eq_some_iff.1 h).1
   rw [List.length_take, List.length_nil] at h1
   omega
  | cons y ys => simp
theorem weaTo_all (b : Book) (s : Sack) : weaTo b s (truthsOf b s).length = weatherOf b s := by
 unfold weaTo weatherOf
 rw [List.take_length]
 rfl
/-- As many rows as rivers, each with as many spans as years. -/
def Shape (b : Book) (p : Rows2) : Prop := p.length = b.rivers.length ∧ ∀ l, l ∈ p → (l.length : Int) = b.years
theorem Shape.hulls {b : Book} {p x : Rows2} (h : Shape b p) (k : Shape b x) : Shape b (hulls p x) := by
 refine ⟨by unfold Proofs.YtiodjapdiflphaaGreatDoor.hulls; rw [List.length_zipWith, h.1, k.1]; omega, fun l hl => ?_⟩
 unfold Proofs.YtiodjapdiflphaaGreatDoor.hulls at hl
 obtain ⟨i, hi, rfl⟩ := List.mem_iff_getElem.1 hl
 rw [List.length_zipWith] at hi
 rw [List.getElem_zipWith, List.length_zipWith]
 have h1 := h.2 _ (List.getElem_mem (by omega : i < p.length))
 have h2 := k.2 _ (List.getElem_mem (by omega : i < x.length))
 omega
theorem shape_truth {b : Book} {s : Sack} (hB : BookB b) (hS : SackB s) {x : State} (h : x ∈ truthsOf b s) : Shape b x.wea := by
 have h1 := (truth_facts hB hS h).1
 exact ⟨h1.len, h1.row⟩
theorem shape_to {b : Book} {s : Sack} (hB : BookB b) (hS : SackB s) : ∀ k, k < (truthsOf b s).length → Shape b (weaTo b s (k + 1))
 | 0, h => by
  rw [weaTo_succ (List.getElem?_eq_getElem h)]
  unfold weaPre; rw [if_pos rfl]
  have := shape_truth hB hS (List.getElem_mem h)
  exact this.hulls this
 | k + 1, h => by
  rw [weaTo_succ (List.getElem?_eq_getElem h)]
  unfold weaPre; rw [if_neg (by omega)]
  exact (shape_to hB hS k (by omega)).hulls (shape_truth hB hS (List.getElem_mem h))
theorem shape_pre {b : Book} {s : Sack} (hB : BookB b) (hS : SackB s) {k : Nat} {x : State} (h : (truthsOf b s)[k]? = some x) : Shape b (weaPre b s k x) := by
 unfold weaPre
 split
 ·exact shape_truth hB hS (List.mem_of_getElem? h)
 ·have hk := (List.getElem?_eq_some_iff.1 h).1
  have := shape_to hB hS (k - 1) (by omega)
  rwa [show k - 1 + 1 = k by omega] at this
/-! ### Half done -/
def mix {α : Type} (z p : List α) (k : Nat) : List α := z.take k ++ p.drop k
theorem mix_zero {α : Type} (z p : List α) : mix z p 0 = p := rfl
theorem mix_all {α : Type} {z p : List α} {k : Nat} (hz : z.length ≤ k) (hp : p.length ≤ k) : mix z p k = z := by
 unfold mix; rw [List.take_of_length_le hz, List.drop_eq_nil_of_le hp, List.append_nil]
theorem mix_length {α : Type} {z p : List α} (h : z.length = p.length) (k : Nat) : (mix z p k).length = p.length := by
 unfold mix; rw [List.length_append, List.length_take, List.length_drop]; omega
theorem mix_at {α : Type} {z p : List α} (h : z.length = p.length) {k : Nat} (hk : k < p.length) : (mix z p k)[k]? = p[k]? := by
 unfold mix
 rw [List.getElem?_append_right (by rw [List.length_take]; omega), List.length_take, Nat.min_eq_left (by omega), Nat.sub_self, List.getElem?_drop, Nat.add_zero]
theorem mix_set {α : Type} {z p : List α} (h : z.length = p.length) {k : Nat} {x : α} (hx : z[k]? = some x) : (mix z p k).set k x = mix z p (k + 1) := by
 have hk := (List.getElem?_eq_some_iff.1 hx).1
 unfold mix
 rw [List.set_append_right _ _ (by rw [List.length_take]; omega), List.length_take, Nat.min_eq_left (by omega), Nat.sub_self, List.take_add_one, hx, List.drop_eq_getElem_cons (by omega : k < p.length), List.set_cons_zero]
 simp
theorem zip_at {α β γ : Type} {f : α → β → γ} {p : List α} {x : List β} {k : Nat} {a : α} {c : β} (hp : p[k]? = some a) (hx : x[k]? = some c) : (List.zipWith f p x)[k]? = some (f a c) := by
 rw [List.getElem?_zipWith, hp, hx]
theorem set_here {α : Type} {l : List α} {i : Nat} {x : α} (h : l[i]? = some x) : l.set i x = l := by
 obtain ⟨h1, h2⟩ := List.getElem?_eq_some_iff.1 h
 rw [← h2, List.set_getElem_self]
/-! ### In memory -/
/-- A slice of rows, in a cell c; each row in a block of its own, none in another's. -/
structure OutI (w : World) (c : Nat) (xss : Rows2) (ov : Value) (gs : List Nat) (vs : List Value) (O : Nat → Prop) (W : World) : Prop where
 ext : Ext w W
 o : W.cell? ⟨c, 0, none⟩ = some ov
 f : W.frozen? ⟨c, 0, none⟩ = false
 own : W.ownsRow (c + 1) 60 1 ov xss.length vs
 gl : gs.length = xss.length
 row : ∀ (i g : Nat) (xs : List (Int × Int)), gs[i]? = some g → xss[i]? = some xs → xs ≠ [] ∧ ∃ cap, vs[i]? = some (Value.slice (some ⟨g, 0, none⟩) xs.length cap) ∧ W.ownsRow (c + 1) 52 2 (.slice (some ⟨g, 0, none⟩) xs.length cap) xs.length (xs.flatMap pairC)
 nd : ∀ (i j g : Nat), gs[i]? = some g → gs[j]? = some g → i = j
 ng : ∀ g, g ∈ gs → ¬ ov.ownBlock = some g
 low : ∀ j, O j ↔ j = c ∨ ov.ownBlock = some j ∨ j ∈ gs
section
variable {w : World} {c : Nat} {xss : Rows2} {ov : Value} {gs : List Nat} {vs : List Value} {O : Nat → Prop} {W W' : World} {n : Nat}
theorem OutI.vl (h : OutI w c xss ov gs vs O W) : vs.length = xss.length := by have := h.own.1; omega
theorem OutI.at_g (h : OutI w c xss ov gs vs O W) {g : Nat} (hg : g ∈ gs) : ∃ (i : Nat) (xs : List (Int × Int)), gs[i]? = some g ∧ xss[i]? = some xs := by
 obtain ⟨i, hi, rfl⟩ := List.mem_iff_getElem.1 hg
 exact ⟨i, xss[i]'(by rw [← h.gl]; exact hi), List.getElem?_eq_getElem hi, List.getElem?_eq_getElem _⟩
theorem OutI.vs_nb (h : OutI w c xss ov gs vs O W) : ∀ u, u ∈ vs → NB u := by
 intro u hu
 obtain ⟨i, hi, rfl⟩ := List.mem_iff_getElem.1 hu
 have hi' : i < xss.length := by rw [← h.vl]; exact hi
 obtain ⟨_, cap, h2, _⟩ := h.row i (gs[i]'(by rw [h.gl]; exact hi')) xss[i] (List.getElem?_eq_getElem _) (List.getElem?_eq_getElem _)
 rw [List.getElem?_eq_getElem hi] at h2
 rw [Option.some.inj h2]
 exact NB.slice _ _ _
theorem OutI.quiet (h : OutI w c xss ov gs vs O W) (q : Quiet n W W') (hn : w.heap.size ≤ n) (hk : ov = .slice none 0 0 ∨ 0 < xss.length) : OutI w c xss ov gs vs O W' :=
 ⟨h.ext.quiet hn q, q.cell h.o (owns_nb h.own), (q.frozen h.o (owns_nb h.own)).trans h.f, owns_quiet h.own q h.vs_nb (.inr (hk.imp id (fun h => ⟨h, by omega⟩))), h.gl, fun i g xs hg hxs => by
  obtain ⟨h1, cap, h2, h3⟩ := h.row i g xs hg hxs
  exact ⟨h1, cap, h2, owns_quiet h3 q (pairs_nb xs) (.inl rfl)⟩, h.nd, h.ng, h.low⟩
theorem OutI.ext' (h : OutI w c xss ov gs vs O W) (q : Ext W W') : OutI w c xss ov gs vs O W' :=
 ⟨h.ext.trans q, q.cell h.o, (q.frozen (lt_of_cell h.o)).trans h.f, owns_ext h.own q, h.gl, fun i g xs hg hxs => by
  obtain ⟨h1, cap, h2, h3⟩ := h.row i g xs hg hxs
  exact ⟨h1, cap, h2, owns_ext h3 q⟩, h.nd, h.ng, h.low⟩
theorem OutI.olt (h : OutI w c xss ov gs vs O W) : ∀ i, O i → c ≤ i ∧ i < W.heap.size := by
 intro i hi
 rcases (h.low i).1 hi with rfl | hi | hi
 ·exact ⟨Nat.le_refl _, lt_of_cell h.o⟩
 ·have := World.ownsRow.lt h.own i hi; omega
 ·obtain ⟨j, xs, hj, hxs⟩ := h.at_g hi
  obtain ⟨_, cap, _, h3⟩ := h.row j i xs hj hxs
  have := World.ownsRow.lt h3 i rfl; omega
/-- The cells that lead to a span. -/
theorem OutI.read (h : OutI w c xss ov gs vs O W) {i k : Nat} {xs : List (Int × Int)} {x : Int × Int} (hxs : xss[i]? = some xs) (hx : xs[k]? = some x) : ∃ G cap g cap2, ov = .slice (some ⟨G, 0, none⟩) xss.length cap ∧ gs[i]? = some g ∧ vs[i]? = some (Value.slice (some ⟨g, 0, none⟩) xs.length cap2) ∧
  W.cell? ⟨G, i, none⟩ = some (.slice (some ⟨g, 0, none⟩) xs.length cap2) ∧ W.cell? ⟨g, k * 2, none⟩ = some (.int .i64 x.1) ∧ W.cell? ⟨g, k * 2 + 1, none⟩ = some (.int .i64 x.2) ∧ W.frozen? ⟨g, k * 2, none⟩ = false ∧ W.frozen? ⟨g, k * 2 + 1, none⟩ = false ∧ ¬ G = g ∧ ¬ c = g ∧ ¬ c = G := by
 have hi := (List.getElem?_eq_some_iff.1 hxs).1
 have hk := (List.getElem?_eq_some_iff.1 hx).1
 obtain ⟨m, hm⟩ : ∃ m, xss.length = m + 1 := ⟨xss.length - 1, by omega⟩
 have hown := h.own
 rw [hm] at hown
 obtain ⟨G, cap, rfl, hG, _⟩ := owns_head hown
 rw [← hm] at hown
 have hgi : i < gs.length := by rw [h.gl]; exact hi
 obtain ⟨_, cap2, h2, h3⟩ := h.row i gs[i] xs (List.getElem?_eq_getElem hgi) hxs
 have e0 : (xs.flatMap pairC)[k * 2]? = some (.int .i64 x.1) := by rw [show k * 2 = k * 2 + 0 from rfl, flatMap_at pairC 2 (fun _ => rfl) xs k 0 x hx (by omega)]; rfl
 have e1 : (xs.flatMap pairC)[k * 2 + 1]? = some (.int .i64 x.2) := by rw [flatMap_at pairC 2 (fun _ => rfl) xs k 1 x hx (by omega)]; rfl
 have g1 := owns_block h3 gs[i] rfl
 have g2 := owns_block h.own G rfl
 have g3 := h.ng gs[i] (List.getElem_mem hgi)
 exact ⟨G, cap, gs[i], cap2, by rw [hm], List.getElem?_eq_getElem hgi, h2, by rw [hown.cellAt i (by omega)]; exact h2, by rw [h3.cellAt (k * 2) (by omega)]; exact e0, by rw [h3.cellAt (k * 2 + 1) (by omega)]; exact e1, h3.frozenAt _, h3.frozenAt _, fun e => g3 (by rw [← e]; rfl), by omega, by omega⟩
/-- A span is written. -/
theorem OutI.store (h : OutI w c xss ov gs vs O W) (hc : w.heap.size ≤ c) {i k g : Nat} {xs : List (Int × Int)} (hg : gs[i]? = some g) (hxs : xss[i]? = some xs) (m : Int × Int) :
  OutI w c (xss.set i (xs.set k m)) ov gs vs O ((W.setCell ⟨g, k * 2, none⟩ (.int .i64 m.1)).setCell ⟨g, k * 2 + 1, none⟩ (.int .i64 m.2)) ∧ Touch O W ((W.setCell ⟨g, k * 2, none⟩ (.int .i64 m.1)).setCell ⟨g, k * 2 + 1, none⟩ (.int .i64 m.2)) := by
 have hmem := List.mem_of_getElem? hg
 have hng := h.ng g hmem
 obtain ⟨hne, cap, hv, h3⟩ := h.row i g xs hg hxs
 have hgb := owns_block h3 g rfl
 have hT : Touch (· = g) W ((W.setCell ⟨g, k * 2, none⟩ (.int .i64 m.1)).setCell ⟨g, k * 2 + 1, none⟩ (.int .i64 m.2)) := (Touch.setCell (M := (· = g)) (a := ⟨g, k * 2, none⟩) _ rfl).trans (Touch.setCell (a := ⟨g, k * 2 + 1, none⟩) _ rfl)
 have hcg : ¬ c = g := by omega
 have hs3 := row_stored (p := k) h3 m
 refine ⟨⟨Touch.ext h.ext hT (fun j hj => by omega), hT.cell h.o hcg, (hT.frozen h.o hcg).trans h.f, ?_, by rw [List.length_set]; exact h.gl, fun j g' ys hg' hys => ?_, h.nd, h.ng, h.low⟩, hT.mono (fun j hj => (h.low j).2 (.inr (.inr (hj ▸ hmem))))⟩
 ·rw [List.length_set]; exact owns_touch h.own hT (fun g' hg' e => hng (e ▸ hg'))
 ·by_cases e : j = i
  ·subst e
   rw [hg] at hg'; cases hg'
   rw [List.getElem?_set_self (List.getElem?_eq_some_iff.1 hxs).1] at hys
   cases hys
   exact ⟨by rw [Ne, List.set_eq_nil_iff]; exact hne, cap, by rw [List.length_set]; exact hv, by rw [List.length_set]; exact hs3⟩
  ·rw [List.getElem?_set_ne (fun e' => e e'.symm)] at hys
   obtain ⟨h4, cap', h5, h6⟩ := h.row j g' ys hg' hys
   exact ⟨h4, cap', h5, owns_touch h6 hT (fun g2 hg2 e2 => by cases hg2; exact e (h.nd j i g' hg' (by have e3 : g' = g := e2; rw [e3]; exact hg)))⟩
/-- A row is put to the end. -/
theorem OutI.push (h : OutI w c xss ov gs vs O W) (hwc : w.heap.size ≤ c) {w2 w5 : World} {ys : List (Int × Int)} {u : Value} {e' : TypeId} {g cap base : Nat} (q : Ext W w2) (hy : ys ≠ []) (hu : w2.ownsRow base 52 2 u ys.length (ys.flatMap pairC)) (hb : W.heap.size ≤ base)
  (hown5 : w5.ownsRow (c + 1) 60 1 (.slice (some ⟨g, 0, none⟩) (xss.length + 1) cap) (xss.length + 1) (vs ++ [u])) (hg5 : (w2.alloc (.cells #[u] e')).grownBy w5 ov.ownBlock) (hloc : ov.ownBlock = some g ∨ g = w2.heap.size + 1) :
  (w5.cell? ⟨c, 0, none⟩ = some ov ∧ w5.frozen? ⟨c, 0, none⟩ = false) ∧ Touch O W (w5.setCell ⟨c, 0, none⟩ (.slice (some ⟨g, 0, none⟩) (xss.length + 1) cap)) ∧
  ∃ g6 O', (∀ j, O' j → (O j ∨ W.heap.size ≤ j) ∧ j < (w5.setCell ⟨c, 0, none⟩ (.slice (some ⟨g, 0, none⟩) (xss.length + 1) cap)).heap.size) ∧
  OutI w c (xss ++ [ys]) (.slice (some ⟨g, 0, none⟩) (xss.length + 1) cap) (gs ++ [g6]) (vs ++ [u]) O' (w5.setCell ⟨c, 0, none⟩ (.slice (some ⟨g, 0, none⟩) (xss.length + 1) cap)) := by
 obtain ⟨yl, hyl⟩ : ∃ yl, ys.length = yl + 1 := ⟨ys.length - 1, by have := List.length_pos_iff.2 hy; omega⟩
 have hu' := hu
 rw [hyl] at hu'
 obtain ⟨g6, cap6, rfl, _, hg6l⟩ := owns_head hu'
 rw [← hyl] at hu hown5 hg5 ⊢
 have hg6 := owns_block hu g6 rfl
 have hsz := q.size
 have hcl := lt_of_cell h.o
 simp only at hcl
 have hbk : ∀ k, ov.ownBlock = some k → c + 1 ≤ k ∧ k < W.heap.size := fun k hk => World.ownsRow.lt h.own k hk
 have nb : ¬ ov.ownBlock = some c := fun hk => by have := (hbk _ hk).1; omega
 have hx2 : Ext W (w2.alloc (.cells #[.slice (some ⟨g6, 0, none⟩) ys.length cap6] e')) := q.alloc _
 have hTg : Touch (fun k => ov.ownBlock = some k) (w2.alloc (.cells #[.slice (some ⟨g6, 0, none⟩) ys.length cap6] e')) w5 := Touch.grown hg5 (fun k hk => hk)
 have hT : Touch (fun k => ov.ownBlock = some k) W w5 := (Touch.of_ext hx2).trans hTg
 have p0 := hT.cell h.o nb
 have p1 := (hT.frozen h.o nb).trans h.f
 have hTc : Touch (· = c) w5 (w5.setCell ⟨c, 0, none⟩ (.slice (some ⟨g, 0, none⟩) (xss.length + 1) cap)) := Touch.setCell _ rfl
 have hTs : Touch O W (w5.setCell ⟨c, 0, none⟩ (.slice (some ⟨g, 0, none⟩) (xss.length + 1) cap)) := (hT.mono (fun k hk => (h.low k).2 (.inr (.inl hk)))).trans (hTc.mono (fun k hk => (h.low k).2 (.inl hk)))
 have hgb := owns_block hown5 g rfl
 have hgl := (World.ownsRow.lt hown5 g rfl).2
 have hs5 : (w5.setCell ⟨c, 0, none⟩ (.slice (some ⟨g, 0, none⟩) (xss.length + 1) cap)).heap.size = w5.heap.size := by simp [World.setCell]
 have h25 : w2.heap.size ≤ w5.heap.size := Nat.le_trans ((Ext.refl w2).alloc (.cells #[.slice (some ⟨g6, 0, none⟩) ys.length cap6] e')).size hTg.size
 have hgg : ∀ g', g' ∈ gs → c + 1 ≤ g' ∧ g' < W.heap.size := fun g' hg' => by
  obtain ⟨j, xs, hj, hxs⟩ := h.at_g hg'
  obtain ⟨_, cap', _, h3⟩ := h.row j g' xs hj hxs
  exact World.ownsRow.lt h3 g' rfl
 refine ⟨⟨p0, p1⟩, hTs, g6, fun j => j = c ∨ j = g ∨ j ∈ gs ++ [g6], fun j hj => ?_, ⟨Touch.ext h.ext hTs (fun j hj => by have := (h.olt j hj).1; omega), by go_simp, by go_simp, ?_, by simp [h.gl], fun i g' xs hg' hxs => ?_, fun i j g' hi hj => ?_, fun g' hg' e => ?_, fun j => ?_⟩⟩
 ·rw [hs5]
  rcases hj with rfl | rfl | hj
  ·exact ⟨.inl ((h.low _).2 (.inl rfl)), by have := lt_of_cell p0; exact this⟩
  ·refine ⟨?_, hgl⟩
   rcases hloc with hl | hl
   ·exact .inl ((h.low _).2 (.inr (.inl hl)))
   ·exact .inr (by omega)
  ·rcases List.mem_append.1 hj with hj | hj
   ·exact ⟨.inl ((h.low _).2 (.inr (.inr hj))), by have := hgg j hj; omega⟩
   ·have : j = g6 := by simpa using hj
    subst this
    exact ⟨.inr (by omega), by omega⟩
 ·have h5 := owns_touch hown5 hTc (fun k hk => by have hk' : some g = some k := hk; cases hk'; omega)
  rw [List.length_append]; exact h5
 ·rcases Nat.lt_or_ge i gs.length with hi | hi
  ·rw [List.getElem?_append_left hi] at hg'
   rw [List.getElem?_append_left (by rw [← h.gl]; exact hi)] at hxs
   obtain ⟨h1, cap', h2, h3⟩ := h.row i g' xs hg' hxs
   have hb' := hgg g' (List.mem_of_getElem? hg')
   refine ⟨h1, cap', by rw [List.getElem?_append_left (by rw [h.vl, ← h.gl]; exact hi)]; exact h2, owns_touch (owns_touch h3 hT (fun k hk e => ?_)) hTc (fun k hk e => ?_)⟩
   ·have hk' : some g' = some k := hk
    cases hk'
    exact h.ng g' (List.mem_of_getElem? hg') e
   ·have hk' : some g' = some k := hk
    cases hk'
    have e' : g' = c := e
    omega
  ·have hi' : i = gs.length := by
    have := (List.getElem?_eq_some_iff.1 hg').1
    rw [List.length_append, List.length_singleton] at this; omega
   subst hi'
   rw [List.getElem?_append_right (Nat.le_refl _), Nat.sub_self] at hg'
   rw [List.getElem?_append_right (by rw [h.gl]; exact Nat.le_refl _), h.gl, Nat.sub_self] at hxs
   cases hg'; cases hxs
   refine ⟨hy, cap6, by rw [List.getElem?_append_right (by rw [h.vl, h.gl]; exact Nat.le_refl _), h.vl, h.gl, Nat.sub_self]; rfl, ?_⟩
   have h5 := owns_touch (owns_touch (owns_ext hu ((Ext.refl w2).alloc (.cells #[.slice (some ⟨g6, 0, none⟩) ys.length cap6] e'))) hTg (fun k hk e => ?_)) hTc (fun k hk e => ?_)
   ·obtain ⟨h6, h7⟩ := h5
    rcases h7 with ⟨h7, _⟩ | ⟨gg, cc, cur, hv, hgg', rest⟩
    ·cases h7
    ·cases hv
     exact ⟨h6, .inr ⟨g6, cap6, cur, rfl, by omega, rest⟩⟩
   ·have hk' : some g6 = some k := hk
    cases hk'
    have := (hbk _ e).2; omega
   ·have hk' : some g6 = some k := hk
    cases hk'
    have e' : g6 = c := e
    omega
 ·rcases Nat.lt_or_ge i gs.length with hi' | hi'
  ·rw [List.getElem?_append_left hi'] at hi
   rcases Nat.lt_or_ge j gs.length with hj' | hj'
   ·rw [List.getElem?_append_left hj'] at hj
    exact h.nd i j g' hi hj
   ·have hg' := (hgg g' (List.mem_of_getElem? hi)).2
    have : g' = g6 := by
     have := List.mem_of_getElem? ((List.getElem?_append_right hj').symm.trans hj)
     simpa using this
    omega
  ·have e1 : g' = g6 := by
    have := List.mem_of_getElem? ((List.getElem?_append_right hi').symm.trans hi)
    simpa using this
   rcases Nat.lt_or_ge j gs.length with hj' | hj'
   ·rw [List.getElem?_append_left hj'] at hj
    have := (hgg g' (List.mem_of_getElem? hj)).2
    omega
   ·have a1 := (List.getElem?_eq_some_iff.1 hi).1
    have a2 := (List.getElem?_eq_some_iff.1 hj).1
    simp at a1 a2
    omega
 ·have e' : some g = some g' := e
  cases e'
  rcases List.mem_append.1 hg' with hg' | hg'
  ·rcases hloc with hl | hl
   ·exact h.ng g hg' hl
   ·have := (hgg g hg').2; omega
  ·have e6 : g = g6 := by simpa using hg'
   rcases hloc with hl | hl
   ·have := (hbk _ hl).2; omega
   ·omega
 ·exact ⟨fun hj => by rcases hj with hj | hj | hj; exact .inl hj; exact .inr (.inl (by rw [hj]; rfl)); exact .inr (.inr hj), fun hj => by
   rcases hj with hj | hj | hj
   ·exact .inl hj
   ·have hj' : some g = some j := hj
    cases hj'; exact .inr (.inl rfl)
   ·exact .inr (.inr hj)⟩
theorem OutI.spans (h : OutI w c xss ov gs vs O W) (M : Nat → Prop) (hM : ∀ i, M i → i ≤ c) : SpansOff M W ov xss := by
 refine ⟨vs, h.vl, RowAt.of_owns h.own, fun a n k hv hm => ?_, fun i x xs hx hxs => ?_⟩
 ·have := owns_block h.own a.block (by rw [hv]; rfl); have := hM _ hm; omega
 ·have hi := (List.getElem?_eq_some_iff.1 hxs).1
  obtain ⟨_, cap, h2, h3⟩ := h.row i (gs[i]'(by rw [h.gl]; exact hi)) xs (List.getElem?_eq_getElem _) hxs
  rw [hx] at h2
  cases h2
  exact PairsOff.of_owns h3 (fun j hj => by have := hM _ hj; omega)
end
end Go.Proofs.YtiodjapdiflphaaGreatDoor
/- Weather: the walk. -/
namespace Go.Proofs.YtiodjapdiflphaaGreatDoor
open Go.RowKit
def WeatherRes (b : Book) (s : Sack) (w : World) (e : Ending) (w' : World) : Prop :=
 ∃ v, e = .returned (.tuple #[v, .int .i64 (askN b s true)]) ∧ Ext w w' ∧ SpansOff (fun _ => False) w' v (if askN b s true = 0 then weatherOf b s else [])
set_option maxRecDepth 100000 in
set_option maxHeartbeats 8000000 in
theorem Weather_no (bv sv : Value) (b : Book) (s : Sack) (w : World) (hb : BookAt w bv b) (hs : SackAt w sv s) (hn : ¬ askN b s true = 0) : Calls Tryz.prog 15 #[bv, sv] w (WeatherRes b s w) := by
 obtain ⟨rv, rfl, hr⟩ := hb
 obtain ⟨sv, tv, rfl, hs, ht⟩ := hs
 have HA := Lib.hid (fun (w1 : World) (hx : Ext w w1) => asked_any rv sv tv b s true w1 (hr.ext hx) (hs.ext hx) (RowOf.ext ht hx))
 unfold AskRes zeroSack at HA
 rw [if_neg hn] at HA
 have hres : ∀ w', Ext w w' → WeatherRes b s w (.returned (.tuple #[.slice none 0 0, .int .i64 (askN b s true)])) w' := fun w' hx => ⟨_, rfl, hx, by rw [if_neg hn]; exact SpansOff.nil _ _⟩
 obtain ⟨n, hnn⟩ : ∃ n, n = askN b s true := ⟨_, rfl⟩
 rw [← hnn] at hn HA hres
 clear hnn
 have t0 : (n == 0) = false := by simpa using hn
 obtain ⟨ra, rc, rfl, _⟩ := hr.open
 obtain ⟨sa, sc, rfl, hsl, hsm, _⟩ := hs.open
 obtain ⟨ta, tc, rfl, _⟩ := RowAt.open ht
 have HRES := Lib.hid hres
 have HX0 := Lib.hid (((Ext.refl w).alloc _).alloc _ : Ext w ((w.alloc (.cells #[.int .i64 b.years, .slice ra b.rivers.length rc] 24)).alloc (.cells #[.slice sa s.shells.length sc, .slice ta s.tests.length tc] 28)))
 clear hr hs ht hres
 go_enter Tryz.func15, Tryz.ntmps15
 go_wp2_with (go_at_call 35; refine (HA.out _ HX0.out).mono ?_; rintro e w2 ⟨rfl, hx2⟩)
 refine bodyPost_ret (v := .tuple #[.slice none 0 0, .int .i64 n]) (by simp [results, Tryz.results15, go_sem, *]) rfl (HRES.out _ ?_)
 repeat (first | exact HX0.out.trans hx2 | apply Ext.alloc)
section
attribute [local go_sem] Oper.semAt_some
set_option maxRecDepth 100000 in
set_option maxHeartbeats 16000000 in
theorem Weather_yes (bv sv : Value) (b : Book) (s : Sack) (w : World) (hb : BookAt w bv b) (hs : SackAt w sv s) (hn : askN b s true = 0) : Calls Tryz.prog 15 #[bv, sv] w (WeatherRes b s w) := by
 obtain ⟨hb1, hs1, _, hp⟩ := asked_cases hn
 have hB := bookB_of hb1
 have hS := sackB_of hs1
 obtain ⟨rv, rfl, hr⟩ := hb
 obtain ⟨sv, tv, rfl, hs, ht⟩ := hs
 have HA := Lib.hid (fun (w1 : World) (hx : Ext w w1) => asked_any rv sv tv b s true w1 (hr.ext hx) (hs.ext hx) (RowOf.ext ht hx))
 have HIT := Lib.hid (fun (W1 : World) (h : Ext w W1) (O0 : Nat → Prop) (hO : ∀ j, O0 j → w.heap.size ≤ j) => truths_iter b s rv sv tv w W1 O0 hB hS hr hs ht h hO)
 have hres : ∀ w' v, Ext w w' → SpansOff (fun _ => False) w' v (weatherOf b s) → WeatherRes b s w (.returned (.tuple #[v, .int .i64 0])) w' := fun w' v hx h => ⟨_, by rw [hn], hx, by rw [if_pos hn]; exact h⟩
 unfold AskRes at HA
 rw [if_pos hn, hn] at HA
 obtain ⟨ra, rc, rfl, _⟩ := hr.open
 obtain ⟨sa, sc, rfl, hsl, hsm, _⟩ := hs.open
 obtain ⟨ta, tc, rfl, _⟩ := RowAt.open ht
 have HRES := Lib.hid hres
 have HBS := Lib.hid (And.intro hB hS)
 have hX0 : Ext w ((w.alloc (.cells #[.int .i64 b.years, .slice ra b.rivers.length rc] 24)).alloc (.cells #[.slice sa s.shells.length sc, .slice ta s.tests.length tc] 28)) := ((Ext.refl w).alloc _).alloc _
 have HX0 := Lib.hid hX0
 have hmix : Tryz.prog.follows .mixedOrders = true := by kernel_rfl
 have hb3 := hB.n2
 have hb4 := hB.n1
 have hy1 := hB.y1
 have hy2 := hB.y2
 clear hr hs ht hres hn hb1 hs1 hB hS
 unfold sackV at HA HIT
 refine (callsIn_wide (n := 0)).1 ?_
 refine callsIn_of_wp_marks Tryz.func15 rfl trivial ?_ rfl
 simp only [Tryz.ntmps15, List.size_toArray, List.length_cons, List.length_nil, Nat.reduceAdd, Nat.reduceSub, Array.replicate_succ, Array.replicate_zero, List.push_toArray, List.append_toArray, List.nil_append, List.cons_append]
 gi_wp2_with (gi_at_call 35; refine (callsIn_wide.2 (HA.out _ HX0.out)).mono ?_; rintro e w1 ⟨rfl, hx1⟩)
 have hxw1 : Ext w w1 := HX0.out.trans hx1
 have h0 : OutI w (w1.heap.size + 1) (weaTo b s 0) (.slice none 0 0) [] [] (fun j => j = w1.heap.size + 1) ((w1.alloc (.cells #[.int .i64 b.years, .slice ra b.rivers.length rc, .slice sa s.shells.length sc, .slice ta s.tests.length tc] 89)).alloc (.cells #[.slice none 0 0] 36)) :=
  ⟨(hxw1.alloc _).alloc _, by go_simp, by go_simp, World.ownsRow_nil _ _ _ _, rfl, fun i g xs h => by simp at h, fun i j g h => by simp at h, fun g h => by simp at h, fun j => ⟨.inl, fun h => by rcases h with h | h | h; exact h; cases h; simp at h⟩⟩
 have hxs := hxw1.size
 clear hx1 hX0
 generalize hW0 : ((w1.alloc (.cells #[.int .i64 b.years, .slice ra b.rivers.length rc, .slice sa s.shells.length sc, .slice ta s.tests.length tc] 89)).alloc (.cells #[.slice none 0 0] 36)) = W0 at h0 ⊢
 have hz : W0.heap.size = w1.heap.size + 2 := by rw [← hW0]; simp
 clear hW0
 refine wpIn_rangeF (gf := 50) (fi := #[.agg #[.int .i64 b.years, .slice ra b.rivers.length rc, .slice sa s.shells.length sc, .slice ta s.tests.length tc]]) (lb := #[]) (by rfl) enters_truths StIn (fun O O' A x v h k => StIn.less k h) (truthsOf b s) (fun j => j = w1.heap.size + 1) ?hM ?hiter
  (fun k O W => ∃ ov gs vs, OutI w (w1.heap.size + 1) (weaTo b s k) ov gs vs O W ∧ (k = 0 → ov = .slice none 0 0 ∧ gs = [] ∧ vs = []) ∧ (ov = .slice none 0 0 ∨ 0 < (weaTo b s k).length)) (fun _ _ => False) ?hI (fun _ _ _ h _ => h.elim) ⟨_, _, _, h0, fun _ => ⟨rfl, rfl, rfl⟩, .inl rfl⟩
  (fun k O x v a' W => ∃ (bb : Nat) (xo xw : Value), v = .agg #[xo, xw] ∧ StIn O W x v ∧ ¬ O bb ∧ W.cell? ⟨bb, 0, none⟩ = some xo ∧ W.cell? ⟨bb, 1, none⟩ = some xw ∧
   ∃ (u0 u1 u2 u3 u4 u5 u6 u7 u10 u11 u12 u13 u14 u15 u16 u17 u18 u19 u20 u21 u22 u23 u24 u25 u26 u27 u28 u29 u30 u31 u32 u33 u34 u35 u36 u37 u38 u39 u40 u41 u42 u43 u44 u45 u46 u47 u48 u49 u50 u51 u52 u53 u54 u55 u56 u57 u58 u59 u60 u61 u62 u63 u64 u65 u66 u67 u68 u69 u70 u71 u72 u73 u74 u75 u76 u77 u78 u79 u80 u81 u82 u83 u84 u85 : Value), a' = { tmps := #[u0, u1, u2, u3, u4, u5, u6, u7, .pointer (some ⟨w1.heap.size + 1, 0, none⟩), .pointer (some ⟨bb, 0, none⟩), u10, u11, u12, u13, u14, u15, u16, u17, u18, u19, u20, u21, u22, u23, u24, u25, u26, u27, u28, u29, u30, u31, u32, u33, u34, u35, u36, u37, u38, u39, u40, u41, u42, u43, u44, u45, u46, u47, u48, u49, u50, u51, u52, u53, u54, u55, u56, u57, u58, u59, u60, u61, u62, u63, u64, u65, u66, u67, u68, u69, u70, u71, u72, u73, u74, u75, u76, u77, u78, u79, u80, u81, u82, u83, u84, u85], defers := [] }) ?hAx ?hassign ?hbody ?hdone ?hstop
 case hM => intro j hj; omega
 case hiter =>
  intro W1 h1 h2
  exact HIT.out W1 (h0.ext.trans h1) _ (fun j hj => by rcases hj with hj | hj <;> omega)
 case hI =>
  rintro k O A B ⟨ov, gs, vs, h, hk, hl⟩ q
  exact ⟨ov, gs, vs, h.quiet q (by omega) hl, hk, hl⟩
 case hAx =>
  rintro k O x v a' A B ⟨bb, xo, xw, rfl, h1, hO, h2, h3, h4⟩ q
  obtain ⟨_, _, e, p1, p2⟩ := id h1
  cases e
  obtain ⟨_, _, rfl, _⟩ := p1.1.open
  obtain ⟨_, _, p3, _⟩ := p2
  obtain ⟨_, _, rfl, _⟩ := RowAt.open (by assumption)
  exact ⟨bb, _, _, rfl, h1.quiet q, hO, q.cell h2 (NB.slice _ _ _), q.cell h3 (NB.slice _ _ _), h4⟩
 case hstop => intro D c W _ h; exact h.elim
 case hassign =>
  rintro l k O x v W K ⟨ov, gs, vs, hI, _⟩ hx hen hK
  have HK := Lib.hid hK
  have HNO := Lib.hid (show ¬ O W.heap.size from fun h => by have := (hI.olt _ h).2; omega)
  have hen' := hen
  obtain ⟨_, _, rfl, p1, p2⟩ := hen'
  obtain ⟨_, _, rfl, _⟩ := p1.1.open
  obtain ⟨_, _, p3, _⟩ := p2
  obtain ⟨_, _, rfl, _⟩ := RowAt.open (by assumption)
  clear hK p3 p1 hI
  gi_wp2
  refine HK.out _ (W.alloc (.cells #[_, _] 113)) ((Ext.refl W).alloc _) ⟨W.heap.size, _, _, rfl, hen.ext ((Ext.refl W).alloc _), HNO.out, by go_simp, by go_simp, ?_⟩
  (repeat apply Exists.intro)
  rfl
 case hbody =>
  rintro l k O x v a' W hl ⟨rr, hrr⟩ hOr ⟨ov, gs, vs, hI, hk0, hkl⟩ hx ⟨bb, xo, xw, rfl, hst, hbO, g0, g1, hA⟩ hsz
  obtain ⟨u0, hA⟩ := hA
  obtain ⟨u1, hA⟩ := hA
  obtain ⟨u2, hA⟩ := hA
  obtain ⟨u3, hA⟩ := hA
  obtain ⟨u4, hA⟩ := hA
  obtain ⟨u5, hA⟩ := hA
  obtain ⟨u6, hA⟩ := hA
  obtain ⟨u7, hA⟩ := hA
  obtain ⟨u10, hA⟩ := hA
  obtain ⟨u11, hA⟩ := hA
  obtain ⟨u12, hA⟩ := hA
  obtain ⟨u13, hA⟩ := hA
  obtain ⟨u14, hA⟩ := hA
  obtain ⟨u15, hA⟩ := hA
  obtain ⟨u16, hA⟩ := hA
  obtain ⟨u17, hA⟩ := hA
  obtain ⟨u18, hA⟩ := hA
  obtain ⟨u19, hA⟩ := hA
  obtain ⟨u20, hA⟩ := hA
  obtain ⟨u21, hA⟩ := hA
  obtain ⟨u22, hA⟩ := hA
  obtain ⟨u23, hA⟩ := hA
  obtain ⟨u24, hA⟩ := hA
  obtain ⟨u25, hA⟩ := hA
  obtain ⟨u26, hA⟩ := hA
  obtain ⟨u27, hA⟩ := hA
  obtain ⟨u28, hA⟩ := hA
  obtain ⟨u29, hA⟩ := hA
  obtain ⟨u30, hA⟩ := hA
  obtain ⟨u31, hA⟩ := hA
  obtain ⟨u32, hA⟩ := hA
  obtain ⟨u33, hA⟩ := hA
  obtain ⟨u34, hA⟩ := hA
  obtain ⟨u35, hA⟩ := hA
  obtain ⟨u36, hA⟩ := hA
  obtain ⟨u37, hA⟩ := hA
  obtain ⟨u38, hA⟩ := hA
  obtain ⟨u39, hA⟩ := hA
  obtain ⟨u40, hA⟩ := hA
  obtain ⟨u41, hA⟩ := hA
  obtain ⟨u42, hA⟩ := hA
  obtain ⟨u43, hA⟩ := hA
  obtain ⟨u44, hA⟩ := hA
  obtain ⟨u45, hA⟩ := hA
  obtain ⟨u46, hA⟩ := hA
  obtain ⟨u47, hA⟩ := hA
  obtain ⟨u48, hA⟩ := hA
  obtain ⟨u49, hA⟩ := hA
  obtain ⟨u50, hA⟩ := hA
  obtain ⟨u51, hA⟩ := hA
  obtain ⟨u52, hA⟩ := hA
  obtain ⟨u53, hA⟩ := hA
  obtain ⟨u54, hA⟩ := hA
  obtain ⟨u55, hA⟩ := hA
  obtain ⟨u56, hA⟩ := hA
  obtain ⟨u57, hA⟩ := hA
  obtain ⟨u58, hA⟩ := hA
  obtain ⟨u59, hA⟩ := hA
  obtain ⟨u60, hA⟩ := hA
  obtain ⟨u61, hA⟩ := hA
  obtain ⟨u62, hA⟩ := hA
  obtain ⟨u63, hA⟩ := hA
  obtain ⟨u64, hA⟩ := hA
  obtain ⟨u65, hA⟩ := hA
  obtain ⟨u66, hA⟩ := hA
  obtain ⟨u67, hA⟩ := hA
  obtain ⟨u68, hA⟩ := hA
  obtain ⟨u69, hA⟩ := hA
  obtain ⟨u70, hA⟩ := hA
  obtain ⟨u71, hA⟩ := hA
  obtain ⟨u72, hA⟩ := hA
  obtain ⟨u73, hA⟩ := hA
  obtain ⟨u74, hA⟩ := hA
  obtain ⟨u75, hA⟩ := hA
  obtain ⟨u76, hA⟩ := hA
  obtain ⟨u77, hA⟩ := hA
  obtain ⟨u78, hA⟩ := hA
  obtain ⟨u79, hA⟩ := hA
  obtain ⟨u80, hA⟩ := hA
  obtain ⟨u81, hA⟩ := hA
  obtain ⟨u82, hA⟩ := hA
  obtain ⟨u83, hA⟩ := hA
  obtain ⟨u84, hA⟩ := hA
  obtain ⟨u85, hA⟩ := hA
  subst hA
  have hxm := List.mem_of_getElem? hx
  have hshx := shape_truth HBS.out.1 HBS.out.2 hxm
  have hshp := shape_pre HBS.out.1 HBS.out.2 hx
  obtain ⟨_, _, e, p1, p2⟩ := hst
  cases e
  obtain ⟨pa, pc, rfl, _⟩ := p1.1.open
  obtain ⟨ys, y1, y2, y3, y4⟩ := id p2
  obtain ⟨xa, xc, rfl, _⟩ := RowAt.open y2
  have hW1 : w1.heap.size + 2 ≤ W.heap.size := by omega
  have hlen0 : x.wea.length = b.rivers.length := hshx.1
  have hrow0 : ∀ l, l ∈ x.wea → (l.length : Int) = b.years := hshx.2
  have HSHX := Lib.hid hshx
  have HSHP := Lib.hid hshp
  have HX := Lib.hid hx
  have HP2 := Lib.hid p2
  have HI := Lib.hid hI
  have HOR := Lib.hid hOr
  have HG := Lib.hid (And.intro g0 g1)
  have hform : ∃ a n c, ov = .slice a n c := by obtain ⟨_, ⟨rfl, _⟩ | ⟨g, cap, cur, rfl, _⟩⟩ := hI.own <;> exact ⟨_, _, _, rfl⟩
  obtain ⟨va, vn, vc, rfl⟩ := hform
  have hcc := hI.o
  have heq0 := fun w1 => Lib.run_eql_slice_nil (P := Tryz.prog) w1 36 60 va vn vc 0 0 Tryz.underlying36
  have HOLT := Lib.hid hI.olt
  clear hI hOr hx p1 y1 y2 y3 y4 p2 hshx hshp g0
  gi_upto_if 30 with (fail)
  gi_cut [] from 29 (fun W1 => ∃ (ov : Value) (gs : List Nat) (vs : List Value) (O1 : Nat → Prop), Hid (OutI w (w1.heap.size + 1) (weaPre b s k x) ov gs vs O1 W1) ∧ Hid (Touch O W W1) ∧ Hid (∀ j, O1 j → (O j ∨ W.heap.size ≤ j) ∧ j < W1.heap.size))
  case first =>
   by_cases hk : k = 0
   ·obtain ⟨hov, rfl, rfl⟩ := hk0 hk
    injection hov with q1 q2 q3
    subst q1 q2 q3
    subst hk
    clear hk0 hkl heq0
    simp only [Option.isNone_none]
    gi_wp2
    gi_loopw [34] (fun i wr => ∃ (j : Nat) (ov : Value) (gs : List Nat) (vs : List Value) (O1 : Nat → Prop), j ≤ x.wea.length ∧ i = .int .i64 j ∧ Hid (OutI w (w1.heap.size + 1) (x.wea.take j) ov gs vs O1 wr) ∧ Hid (Touch O W wr) ∧ Hid (∀ j, O1 j → (O j ∨ W.heap.size ≤ j) ∧ j < wr.heap.size)) (fun i _ => x.wea.length - (intOf i).toNat)
    case atStart => exact ⟨0, _, _, _, O, Nat.zero_le _, rfl, HI.out, Touch.refl _ _, fun j hj => ⟨.inl hj, (HOLT.out j hj).2⟩⟩
    case round =>
     obtain ⟨j, ov, gs, vs, O1, hj, rfl, hI, hT, hO1⟩ := hrel
     by_cases hlt : j < x.wea.length
     ·have t1 : decide ((j : Int) < (x.wea.length : Int)) = true := by simpa using hlt
      have i1 : (0 : Int) ≤ (j : Int) := by omega
      have i2 : (j : Int) < (x.wea.length : Int) := by omega
      obtain ⟨ys, y1, y2, y3, y4⟩ := HP2.out.touch (hT.out.mono (fun i hi => .inl hi))
      obtain ⟨_, _, he, _, _, y5⟩ := RowAt.open y2
      have hjy : j < ys.length := by omega
      have hrw := y4 j ys[j] x.wea[j] (List.getElem?_eq_getElem hjy) (List.getElem?_eq_getElem hlt)
      obtain ⟨qa, qc, hqv, hq1, hq2, _⟩ := hrw.1.open
      obtain ⟨xb, xf, hxa, hcx⟩ := y5 j ys[j] (List.getElem?_eq_getElem hjy)
      injection he with he1 he2 he3
      have hxa' := he1.trans hxa
      rw [hqv] at hcx hrw
      have hne : x.wea[j] ≠ [] := fun e => by have := HSHX.out.2 _ (List.getElem_mem hlt); rw [e] at this; simp at this; omega
      have hrl : x.wea[j].length ≤ 6 := by have := HSHX.out.2 _ (List.getElem_mem hlt); omega
      have htk : x.wea.take (j + 1) = x.wea.take j ++ [x.wea[j]] := by rw [List.take_add_one, List.getElem?_eq_getElem hlt]; rfl
      have htl : (x.wea.take j).length = j := by rw [List.length_take]; omega
      generalize hY : x.wea[j] = Y at *
      have HTK := Lib.hid htk
      have HNE := Lib.hid hne
      have HCL := Lib.hid (fun w3 (h : Ext wr w3) => clone_spans (.slice qa Y.length qc) Y.length (Y.flatMap pairC) w3 (RowAt.ext hrw.1 h) (pairs_len _) (pairs_one _) (by omega))
      subst hxa'
      have hform : ∃ a n c, ov = .slice a n c := by obtain ⟨_, ⟨rfl, _⟩ | ⟨g, cap, cur, rfl, _⟩⟩ := hI.out.own <;> exact ⟨_, _, _, rfl⟩
      obtain ⟨va, vn, vc, rfl⟩ := hform
      have c1 := hI.out.o
      have HII := Lib.hid hI
      have hsz2 : j + 1 ≤ maxLen ∧ (j + 1) * 24 ≤ 140737488355328 := by unfold maxLen; omega
      have HSZ := Lib.hid hsz2
      have HTL := Lib.hid htl
      have HTT := Lib.hid (And.intro hT hO1)
      have hcb : w1.heap.size + 1 + 1 ≤ wr.heap.size := by have := lt_of_cell c1; exact this
      clear hY htk hne hI hT hO1 hrw y1 y2 y3 y4 y5 hqv hjy he1 he2 he3 hxa hsz2 htl hq1 hq2
      gi_upto_region 11 with (fail)
      refine wpIn_region_any hmix (wpAny_inRound (noDefer_at (by kernel_rfl)) (by rintro ⟨_, _, h⟩; exact h) _ _ _ _ (wpAny_of_till (z := 5) (S := (fun w' => w'.cell? ⟨w1.heap.size + 1, 0, none⟩ = some (.slice va vn vc) ∧ w'.frozen? ⟨w1.heap.size + 1, 0, none⟩ = false)) _ _ _ _ ?_))
      change wpTill _ _ _ _ _ _ _ _ _ wr.drew
      have hS0 := (show (wr.drew).cell? ⟨w1.heap.size + 1, 0, none⟩ = some (.slice va vn vc) ∧ (wr.drew).frozen? ⟨w1.heap.size + 1, 0, none⟩ = false from ⟨(Ext.refl wr).drew.cell HII.out.out.o, ((Ext.refl wr).drew.frozen (lt_of_cell HII.out.out.o)).trans HII.out.out.f⟩)
      refine till_at (i := 0) (d := some 38) (v := ?_) (by kernel_rfl) (by kernel_rfl) (by kernel_rfl) (by kernel_rfl) (by kernel_rfl) (fun _ _ _ h => h) (fun o ho => ?_) hS0 ?_
      rotate_left
      ·simp only [zA, zB, zD] at ho
       subst ho
       refine Or.inl ⟨by rfl, fun w' hSw => ?_⟩
       obtain ⟨hSw0, hSw1⟩ := hSw
       go_simp
       try with_reducible rfl
      try simp only [Act.put, yA, yB, yC]
      refine till_at (i := 1) (d := some 39) (v := ?_) (by kernel_rfl) (by kernel_rfl) (by kernel_rfl) (by kernel_rfl) (by kernel_rfl) (fun _ _ _ h => h) (fun o ho => ?_) hS0 ?_
      rotate_left
      ·simp only [zA, zB, zC, zD] at ho
       subst ho
       refine Or.inl ⟨by rfl, fun w' hSw => ?_⟩
       obtain ⟨hSw0, hSw1⟩ := hSw
       go_simp
       try with_reducible rfl
      try simp only [Act.put, yA, yB, yC]
      refine till_step (i := 2) (by kernel_rfl) (by kernel_rfl) (fun o ho K' hK => ?_)
      simp only [zA, zB, zC, zD] at ho
      subst ho
      go_simp
      go_at_call 51
      refine (HCL.out _ (Ext.refl wr).drew).mono ?_
      rintro e w3 ⟨cv, rfl, own3, hx3⟩
      obtain ⟨ca, cc, rfl, _⟩ := RowAt.open (RowAt.of_owns own3)
      have hx13 := (Ext.refl wr).drew.trans hx3
      have hI3 := HII.out.out.ext' hx13
      go_simp
      have hS2 := (show (w3).cell? ⟨w1.heap.size + 1, 0, none⟩ = some (.slice va vn vc) ∧ (w3).frozen? ⟨w1.heap.size + 1, 0, none⟩ = false from ⟨hI3.o, hI3.f⟩)
      refine hK.out _ _ (fun _ => hS2) (fun _ => ?_)
      clear hK K'
      try simp only [Act.put, yA, yB, yC]
      refine till_step (i := 3) (by kernel_rfl) (by kernel_rfl) (fun o ho K' hK => ?_)
      simp only [zA, zB, zC, zD] at ho
      subst ho
      go_simp
      have hS3 := (show (w3.alloc (.cells #[.slice ca Y.length cc] 60)).cell? ⟨w1.heap.size + 1, 0, none⟩ = some (.slice va vn vc) ∧ (w3.alloc (.cells #[.slice ca Y.length cc] 60)).frozen? ⟨w1.heap.size + 1, 0, none⟩ = false from ⟨((Ext.refl w3).alloc _).cell hI3.o, (((Ext.refl w3).alloc _).frozen (lt_of_cell hI3.o)).trans hI3.f⟩)
      refine hK.out _ _ (fun _ => hS3) (fun _ => ?_)
      clear hK K'
      try simp only [Act.put, yA, yB, yC]
      refine till_step (i := 4) (by kernel_rfl) (by kernel_rfl) (fun o ho K' hK => ?_)
      simp only [zA, zB, zC, zD] at ho
      subst ho
      refine step_push_at E_rows (by rfl) _ _ (by rfl) (w1.heap.size + 1 + 1) (by rfl) (by have h := hI3.own; rw [HTL.out] at h; exact h) (by rfl) (by rfl) (by rfl) (by simp [Value.oneCell']) ?_ HSZ.out.1 HSZ.out.2 (by have := hx13.size; omega)
      intro g5 cap5 w5 own5 hg5 hloc5
      have hpp := HII.out.out.push (by omega) hx13 HNE.out own3 (Nat.le_refl _) (by rw [HTL.out]; exact own5) hg5 hloc5
      rw [HTL.out] at hpp
      have hpc := hpp.1
      clear hpp
      have hS4 := (show (w5).cell? ⟨w1.heap.size + 1, 0, none⟩ = some (.slice va vn vc) ∧ (w5).frozen? ⟨w1.heap.size + 1, 0, none⟩ = false from hpc)
      refine hK.out _ _ (fun _ => hS4) (fun _ => ?_)
      clear hK K'
      try simp only [Act.put, yA, yB, yC]
      refine till_step (i := 5) (by kernel_rfl) (by kernel_rfl) (fun o ho K' hK => ?_)
      simp only [zA, zB, zC, zD] at ho
      subst ho
      go_simp
      refine hK.out _ _ (fun h => absurd rfl h) (fun _ => ?_)
      clear hK K'
      try simp only [Act.put, yA, yB, yC]
      refine till_done (by kernel_rfl) ?_ _
      try simp only [Act.put, yA, yB, yC]
      have hpush := HII.out.out.push (by omega) ((Ext.refl wr).drew.trans hx3) HNE.out own3 (Nat.le_refl _) (by rw [HTL.out]; exact own5) hg5 hloc5
      rw [HTL.out] at hpush
      have HPU := Lib.hid hpush
      clear hpush own5 hg5 hloc5 own3
      gi_wp2
      obtain ⟨g6, O2, hO2, hI2⟩ := HPU.out.2.2
      refine ⟨⟨j + 1, _, _, _, O2, by omega, by go_num, by rw [HTK.out]; exact hI2.ext' (by repeat (first | exact Ext.refl _ | apply Ext.drew)), ?_, ?_⟩, by simp [intOf]; omega⟩
      ·exact Touch.of_new (N := fun i => O i ∨ W.heap.size ≤ i) ((HTT.out.1.out.mono (fun i hi => .inl hi)).trans (HPU.out.2.1.mono (fun i hi => (HTT.out.2.out i hi).1))) (fun i hi hl => hi.elim id (fun h => by omega))
      ·intro i hi
       have h5 := hO2 i hi
       have h6 := HTT.out.1.out.size
       exact ⟨h5.1.elim (fun h => (HTT.out.2.out i h).1) (fun h => .inr (by omega)), h5.2⟩
     ·have t1 : decide ((j : Int) < (x.wea.length : Int)) = false := by simpa using hlt
      have hje : j = x.wea.length := by omega
      subst hje
      have hI2 : OutI w (w1.heap.size + 1) (weaPre b s 0 x) ov gs vs O1 wr := by
       have h := hI.out
       rw [List.take_of_length_le (Nat.le_refl _)] at h
       unfold weaPre; rw [if_pos rfl]; exact h
      have HI2 := Lib.hid hI2
      clear hI2 hI
      gi_wp2
      gi_meet
      exact ⟨ov, gs, vs, O1, HI2.out, hT, hO1⟩
   ·obtain ⟨m, hm⟩ : ∃ m, (weaTo b s k).length = m + 1 := ⟨(weaTo b s k).length - 1, by have := HSHP.out.1; unfold weaPre at this; rw [if_neg hk] at this; omega⟩
    have hown := HI.out.own
    rw [hm] at hown
    obtain ⟨G, cap, hov, _⟩ := owns_head hown
    injection hov with q1 q2 q3
    subst q1 q2 q3
    have HK := Lib.hid hk
    clear hk hown hm hk0 hkl heq0
    simp only [Option.isNone_some]
    gi_wp2
    gi_meet
    refine ⟨.slice (some ⟨G, 0, none⟩) (m + 1) vc, gs, vs, O, ?_, Touch.refl _ _, fun j hj => ⟨.inl hj, (HOLT.out j hj).2⟩⟩
    unfold weaPre
    rw [if_neg HK.out]
    exact HI.out
  case rest =>
   obtain ⟨ov1, gs1, vs1, O1, hI1, hT1, hO1⟩ := hcut
   have g1c := hT1.out.cell HG.out.2 hbO
   have hzT := hT1.out.size
   have HSP := Lib.hid (fun w3 (h : Touch O1 wc w3) => (HP2.out.touch (hT1.out.mono (fun i hi => .inl hi))).touch (h.mono (fun i hi => (hO1.out i hi).1)))
   have HCB := Lib.hid (fun w3 (h : Touch O1 wc w3) => h.cell g1c (fun hb => by rcases (hO1.out _ hb).1 with h4 | h4; exact hbO h4; have := lt_of_cell HG.out.2; simp only at this h4; omega))
   have HZ := Lib.hid (show (hulls (weaPre b s k x) x.wea).length = (weaPre b s k x).length by unfold hulls; rw [List.length_zipWith, HSHP.out.1, HSHX.out.1]; omega)
   have hpl : (weaPre b s k x).length = x.wea.length := HSHP.out.1.trans HSHX.out.1.symm
   have HPL := Lib.hid hpl
   have HFIN := Lib.hid (fun (W' : World) (h : OutI w (w1.heap.size + 1) (hulls (weaPre b s k x) x.wea) ov1 gs1 vs1 O1 W') (hT : Touch O1 wc W') => (⟨Touch.of_new (N := fun i => O i ∨ W.heap.size ≤ i) ((hT1.out.mono (fun i hi => .inl hi)).trans (hT.mono (fun i hi => (hO1.out i hi).1))) (fun i hi hl => hi.elim id (fun h => by omega)), O1, fun i hi => ⟨(hO1.out i hi).1, Nat.lt_of_lt_of_le (hO1.out i hi).2 hT.size⟩, ov1, gs1, vs1, by rw [weaTo_succ HX.out]; exact h, fun h0 => by omega, .inr (by rw [weaTo_succ HX.out, HZ.out, HPL.out, HSHX.out.1]; omega)⟩ : rangeBody O (fun O W => ∃ ov gs vs, OutI w (w1.heap.size + 1) (weaTo b s (k + 1)) ov gs vs O W ∧ (k + 1 = 0 → ov = .slice none 0 0 ∧ gs = [] ∧ vs = []) ∧ (ov = .slice none 0 0 ∨ 0 < (weaTo b s (k + 1)).length)) (fun _ _ => False) W .normal { tmps := #[], defers := [] } W'))
   generalize hPP : weaPre b s k x = P0 at *
   clear hPP hpl hcc hk0 hkl hlen0 hrow0 heq0
   clear g1
   gi_wp2
   gi_loopw [47] (fun i wr => ∃ (j : Nat), j ≤ x.wea.length ∧ i = .int .i64 j ∧ Hid (OutI w (w1.heap.size + 1) (mix (hulls P0 x.wea) P0 j) ov1 gs1 vs1 O1 wr) ∧ Hid (Touch O1 wc wr)) (fun i _ => x.wea.length - (intOf i).toNat)
   case atStart => exact ⟨0, Nat.zero_le _, rfl, hI1, Touch.refl _ _⟩
   case round =>
    obtain ⟨j, hj, rfl, hI, hT⟩ := hrel
    clear hI1 g1c
    by_cases hlt : j < x.wea.length
    ·have t1 : decide ((j : Int) < (x.wea.length : Int)) = true := by simpa using hlt
     have i1 : (0 : Int) ≤ (j : Int) := by omega
     have i2 : (j : Int) < (x.wea.length : Int) := by omega
     obtain ⟨wo, rfl⟩ : ∃ wo : World, wo = wr := ⟨_, rfl⟩
     obtain ⟨ys, y1, y2c, y3, y4⟩ := HSP.out wc (Touch.refl _ _)
     have y2 := y2c.touch (hT.out.mono (fun i hi => (hO1.out i hi).1)) y3
     obtain ⟨_, _, he, _, _, y5⟩ := RowAt.open y2
     have hjy : j < ys.length := by omega
     have hrw := y4 j ys[j] x.wea[j] (List.getElem?_eq_getElem hjy) (List.getElem?_eq_getElem hlt)
     obtain ⟨qa, qc, hqv, hq1, hq2, hq3⟩ := hrw.1.open
     obtain ⟨xb, xf, hxa, hcx⟩ := y5 j ys[j] (List.getElem?_eq_getElem hjy)
     injection he with he1 he2 he3
     have hxa' := he1.trans hxa
     rw [hqv] at hcx hrw
     have hxj : x.wea[j]? = some x.wea[j] := List.getElem?_eq_getElem hlt
     have hjp : j < P0.length := by rw [HPL.out]; exact hlt
     have hpj : P0[j]? = some P0[j] := List.getElem?_eq_getElem hjp
     have hyl : (x.wea[j].length : Int) = b.years := HSHX.out.2 _ (List.getElem_mem hlt)
     have hpl : (P0[j].length : Int) = b.years := HSHP.out.2 _ (List.getElem_mem hjp)
     have hz := zip_at (f := List.zipWith hull) hpj hxj
     generalize hY : x.wea[j] = Y at *
     generalize hPj : P0[j] = Q at *
     have hyq : Y.length = Q.length := by omega
     have HYQ := Lib.hid hyq
     have HZJ := Lib.hid (show (hulls P0 x.wea)[j]? = some (List.zipWith hull Q Y) from hz)
     have HMJ := Lib.hid ((mix_at HZ.out hjp).trans hpj)
     have HML := Lib.hid ((mix_length HZ.out j).trans HPL.out)
     have HROW := Lib.hid (fun w3 (h : Touch O1 wc w3) => hrw.touch (h.mono (fun i hi => (hO1.out i hi).1)))
     have HIO := Lib.hid hI
     have HTO := Lib.hid hT
     have hzl : (List.zipWith hull Q Y).length = Q.length := by rw [List.length_zipWith]; omega
     have HZL := Lib.hid hzl
     subst hxa'
     clear hY hPj hyq hz hzl hpj hxj hrw y1 y2c y2 y3 y4 y5 hqv hjy he1 he2 he3 hxa hI hT hq3 hyl hpl hjp
     gi_wp2
     gi_loopw [54] (fun i wr => ∃ (q : Nat), q ≤ Y.length ∧ i = .int .i64 q ∧ Hid (OutI w (w1.heap.size + 1) ((mix (hulls P0 x.wea) P0 j).set j (mix (List.zipWith hull Q Y) Q q)) ov1 gs1 vs1 O1 wr) ∧ Hid (Touch O1 wc wr)) (fun i _ => Y.length - (intOf i).toNat)
     case atStart => exact ⟨0, Nat.zero_le _, rfl, by unfold Hid; rw [mix_zero, set_here HMJ.out]; exact HIO.out.out, HTO.out⟩
     case round =>
      obtain ⟨q, hq, rfl, hI, hT⟩ := hrel
      by_cases hqt : q < Y.length
      ·have t2 : decide ((q : Int) < (Y.length : Int)) = true := by simpa using hqt
       have i3 : (0 : Int) ≤ (q : Int) := by omega
       have i4 : (q : Int) < (Y.length : Int) := by omega
       have hqQ : q < Q.length := by have := HYQ.out; omega
       have hrs : ((mix (hulls P0 x.wea) P0 j).set j (mix (List.zipWith hull Q Y) Q q))[j]? = some (mix (List.zipWith hull Q Y) Q q) := List.getElem?_set_self (by rw [HML.out]; exact hlt)
       have hmq : (mix (List.zipWith hull Q Y) Q q)[q]? = some Q[q] := (mix_at HZL.out hqQ).trans (List.getElem?_eq_getElem hqQ)
       have hl1 : ((mix (hulls P0 x.wea) P0 j).set j (mix (List.zipWith hull Q Y) Q q)).length = x.wea.length := by rw [List.length_set, HML.out]
       have hl2 : (mix (List.zipWith hull Q Y) Q q).length = Y.length := by rw [mix_length HZL.out, HYQ.out]
       obtain ⟨_, _, hv, _, _, hy3⟩ := (HROW.out wr hT.out).1.open
       obtain ⟨yb, yo, yv, hya, hyv, yc0, yc1⟩ := hy3 q hqt
       injection hv with hv1 hv2 hv3
       have hqa := hv1.trans hya
       obtain ⟨G, cap, g, cap2, hov, hgj, hvj, cG, cg0, cg1, f0, f1, n1, n2, n3⟩ := hI.out.read hrs hmq
       rw [hl1] at hov
       rw [hl2] at cG
       have hzq := zip_at (f := hull) (List.getElem?_eq_getElem hqQ) hyv.out
       have hcc := hI.out.o
       generalize Q[q] = qv at *
       subst hqa
       subst hov
       have HST := Lib.hid (fun W3 (h : Ext wr W3) => (hI.out.ext' h).store (k := q) (by omega) hgj hrs (hull qv yv))
       have HSS := Lib.hid (show ((mix (hulls P0 x.wea) P0 j).set j (mix (List.zipWith hull Q Y) Q q)).set j ((mix (List.zipWith hull Q Y) Q q).set q (hull qv yv)) = (mix (hulls P0 x.wea) P0 j).set j (mix (List.zipWith hull Q Y) Q (q + 1)) by rw [List.set_set, mix_set HZL.out hzq])
       have hxa := (Ext.refl wr).alloc (.cells #[.int .i64 yv.1, .int .i64 yv.2] 52)
       have hxb := hxa.alloc (.cells #[.int .i64 qv.1, .int .i64 qv.2] 52)
       have lg0 := lt_of_cell cg0
       have lg1 := lt_of_cell cg1
       have d1 := hxa.cell hcc
       have d2 := hxa.cell cG
       have d3 := hxa.cell cg0
       have d4 := hxa.cell cg1
       have e1 := hxb.cell hcc
       have e2 := hxb.cell cG
       have e3 := hxb.cell cg0
       have e4 := hxb.cell cg1
       have e5 := (hxb.frozen lg0).trans f0
       have e6 := (hxb.frozen lg1).trans f1
       have HXB := Lib.hid hxb
       have HTI := Lib.hid (And.intro hT hI)
       clear hvj hv1 hv2 hv3 hya hy3 hrs hmq hl1 hl2 hzq hI hT hcc cG cg0 cg1 f0 f1 hxa hxb lg0 lg1
       gi_upto_region 20 with (fail)
       obtain ⟨wb, hwb⟩ : ∃ wb, wb = (wr.alloc (.cells #[.int .i64 yv.1, .int .i64 yv.2] 52)).alloc (.cells #[.int .i64 qv.1, .int .i64 qv.2] 52) := ⟨_, rfl⟩
       have b0 : wb.cell? ⟨wr.heap.size, 0, none⟩ = some (.int .i64 yv.1) := by rw [hwb]; go_simp
       have b1 : wb.cell? ⟨wr.heap.size, 1, none⟩ = some (.int .i64 yv.2) := by rw [hwb]; go_simp
       have b2 : wb.cell? ⟨wr.heap.size + 1, 0, none⟩ = some (.int .i64 qv.1) := by rw [hwb]; go_simp
       have b3 : wb.cell? ⟨wr.heap.size + 1, 1, none⟩ = some (.int .i64 qv.2) := by rw [hwb]; go_simp
       rw [← hwb] at e1 e2 e3 e4 e5 e6 HXB ⊢
       clear hwb d1 d2 d3 d4
       refine wpIn_region_any hmix (wpAny_inRound (noDefer_at (by kernel_rfl)) (by rintro ⟨_, _, h⟩; exact h) _ _ _ _ (wpAny_of_till (z := 17) (S := (fun w' => w'.cell? ⟨w1.heap.size + 1, 0, none⟩ = some (.slice (some ⟨G, 0, none⟩) x.wea.length cap) ∧ w'.cell? ⟨G, j, none⟩ = some (.slice (some ⟨g, 0, none⟩) Y.length cap2) ∧ w'.cell? ⟨wr.heap.size, 0, none⟩ = some (.int .i64 yv.1) ∧ w'.cell? ⟨wr.heap.size, 1, none⟩ = some (.int .i64 yv.2) ∧ w'.cell? ⟨wr.heap.size + 1, 0, none⟩ = some (.int .i64 qv.1) ∧ w'.cell? ⟨wr.heap.size + 1, 1, none⟩ = some (.int .i64 qv.2) ∧ w'.cell? ⟨g, q * 2, none⟩ = some (.int .i64 qv.1) ∧ w'.cell? ⟨g, q * 2 + 1, none⟩ = some (.int .i64 qv.2) ∧ w'.frozen? ⟨g, q * 2, none⟩ = false ∧ w'.frozen? ⟨g, q * 2 + 1, none⟩ = false)) _ _ _ _ ?_))
       change wpTill _ _ _ _ _ _ _ _ _ wb.drew
       have hS0 := (show wb.drew.cell? ⟨w1.heap.size + 1, 0, none⟩ = some (.slice (some ⟨G, 0, none⟩) x.wea.length cap) ∧ wb.drew.cell? ⟨G, j, none⟩ = some (.slice (some ⟨g, 0, none⟩) Y.length cap2) ∧ wb.drew.cell? ⟨wr.heap.size, 0, none⟩ = some (.int .i64 yv.1) ∧ wb.drew.cell? ⟨wr.heap.size, 1, none⟩ = some (.int .i64 yv.2) ∧ wb.drew.cell? ⟨wr.heap.size + 1, 0, none⟩ = some (.int .i64 qv.1) ∧ wb.drew.cell? ⟨wr.heap.size + 1, 1, none⟩ = some (.int .i64 qv.2) ∧ wb.drew.cell? ⟨g, q * 2, none⟩ = some (.int .i64 qv.1) ∧ wb.drew.cell? ⟨g, q * 2 + 1, none⟩ = some (.int .i64 qv.2) ∧ wb.drew.frozen? ⟨g, q * 2, none⟩ = false ∧ wb.drew.frozen? ⟨g, q * 2 + 1, none⟩ = false from ⟨e1, e2, b0, b1, b2, b3, e3, e4, e5, e6⟩)
       refine till_at (i := 0) (d := some 66) (v := ?_) (by kernel_rfl) (by kernel_rfl) (by kernel_rfl) (by kernel_rfl) (by kernel_rfl) (fun _ _ _ h => h) (fun o ho => ?_) hS0 ?_
       rotate_left
       ·simp only [zA, zB, zD] at ho
        subst ho
        refine Or.inl ⟨by rfl, fun w' hSw => ?_⟩
        obtain ⟨hSw0, hSw1, hSw2, hSw3, hSw4, hSw5, hSw6, hSw7, hSw8, hSw9⟩ := hSw
        go_simp
        try with_reducible rfl
       try simp only [Act.put, yA, yB, yC]
       refine till_at (i := 1) (d := some 67) (v := ?_) (by kernel_rfl) (by kernel_rfl) (by kernel_rfl) (by kernel_rfl) (by kernel_rfl) (fun _ _ _ h => h) (fun o ho => ?_) hS0 ?_
       rotate_left
       ·simp only [zA, zB, zC, zD] at ho
        subst ho
        refine Or.inl ⟨by rfl, fun w' hSw => ?_⟩
        obtain ⟨hSw0, hSw1, hSw2, hSw3, hSw4, hSw5, hSw6, hSw7, hSw8, hSw9⟩ := hSw
        go_simp
        try with_reducible rfl
       try simp only [Act.put, yA, yB, yC]
       refine till_at (i := 2) (d := some 68) (v := ?_) (by kernel_rfl) (by kernel_rfl) (by kernel_rfl) (by kernel_rfl) (by kernel_rfl) (fun _ _ _ h => h) (fun o ho => ?_) hS0 ?_
       rotate_left
       ·simp only [zA, zB, zC, zD] at ho
        subst ho
        refine Or.inl ⟨by rfl, fun w' hSw => ?_⟩
        obtain ⟨hSw0, hSw1, hSw2, hSw3, hSw4, hSw5, hSw6, hSw7, hSw8, hSw9⟩ := hSw
        go_simp
        try with_reducible rfl
       try simp only [Act.put, yA, yB, yC]
       refine till_at (i := 3) (d := some 69) (v := ?_) (by kernel_rfl) (by kernel_rfl) (by kernel_rfl) (by kernel_rfl) (by kernel_rfl) (fun _ _ _ h => h) (fun o ho => ?_) hS0 ?_
       rotate_left
       ·simp only [zA, zB, zC, zD] at ho
        subst ho
        refine Or.inl ⟨by rfl, fun w' hSw => ?_⟩
        obtain ⟨hSw0, hSw1, hSw2, hSw3, hSw4, hSw5, hSw6, hSw7, hSw8, hSw9⟩ := hSw
        go_simp
        try with_reducible rfl
       try simp only [Act.put, yA, yB, yC]
       refine till_at (i := 4) (d := some 70) (v := ?_) (by kernel_rfl) (by kernel_rfl) (by kernel_rfl) (by kernel_rfl) (by kernel_rfl) (fun _ _ _ h => h) (fun o ho => ?_) hS0 ?_
       rotate_left
       ·simp only [zA, zB, zC, zD] at ho
        subst ho
        refine Or.inl ⟨by rfl, fun w' hSw => ?_⟩
        obtain ⟨hSw0, hSw1, hSw2, hSw3, hSw4, hSw5, hSw6, hSw7, hSw8, hSw9⟩ := hSw
        go_simp
        try with_reducible rfl
       try simp only [Act.put, yA, yB, yC]
       refine till_at (i := 5) (d := some 71) (v := ?_) (by kernel_rfl) (by kernel_rfl) (by kernel_rfl) (by kernel_rfl) (by kernel_rfl) (fun _ _ _ h => h) (fun o ho => ?_) hS0 ?_
       rotate_left
       ·simp only [zA, zB, zC, zD] at ho
        subst ho
        refine Or.inl ⟨by rfl, fun w' hSw => ?_⟩
        obtain ⟨hSw0, hSw1, hSw2, hSw3, hSw4, hSw5, hSw6, hSw7, hSw8, hSw9⟩ := hSw
        go_simp
        try with_reducible rfl
       try simp only [Act.put, yA, yB, yC]
       refine till_at (i := 6) (d := some 72) (v := ?_) (by kernel_rfl) (by kernel_rfl) (by kernel_rfl) (by kernel_rfl) (by kernel_rfl) (fun _ _ _ h => h) (fun o ho => ?_) hS0 ?_
       rotate_left
       ·simp only [zA, zB, zC, zD] at ho
        subst ho
        refine Or.inl ⟨by rfl, fun w' hSw => ?_⟩
        obtain ⟨hSw0, hSw1, hSw2, hSw3, hSw4, hSw5, hSw6, hSw7, hSw8, hSw9⟩ := hSw
        go_simp
        try with_reducible rfl
       try simp only [Act.put, yA, yB, yC]
       refine till_at (i := 7) (d := some 73) (v := ?_) (by kernel_rfl) (by kernel_rfl) (by kernel_rfl) (by kernel_rfl) (by kernel_rfl) (fun _ _ _ h => h) (fun o ho => ?_) hS0 ?_
       rotate_left
       ·simp only [zA, zB, zC, zD] at ho
        subst ho
        refine Or.inl ⟨by rfl, fun w' hSw => ?_⟩
        obtain ⟨hSw0, hSw1, hSw2, hSw3, hSw4, hSw5, hSw6, hSw7, hSw8, hSw9⟩ := hSw
        go_simp
        try with_reducible rfl
       try simp only [Act.put, yA, yB, yC]
       refine till_at (i := 8) (d := some 74) (v := ?_) (by kernel_rfl) (by kernel_rfl) (by kernel_rfl) (by kernel_rfl) (by kernel_rfl) (fun _ _ _ h => h) (fun o ho => ?_) hS0 ?_
       rotate_left
       ·simp only [zA, zB, zC, zD] at ho
        subst ho
        refine Or.inl ⟨by rfl, fun w' hSw => ?_⟩
        obtain ⟨hSw0, hSw1, hSw2, hSw3, hSw4, hSw5, hSw6, hSw7, hSw8, hSw9⟩ := hSw
        go_simp
        try with_reducible rfl
       try simp only [Act.put, yA, yB, yC]
       refine till_at (i := 9) (d := some 75) (v := ?_) (by kernel_rfl) (by kernel_rfl) (by kernel_rfl) (by kernel_rfl) (by kernel_rfl) (fun _ _ _ h => h) (fun o ho => ?_) hS0 ?_
       rotate_left
       ·simp only [zA, zB, zC, zD] at ho
        subst ho
        refine Or.inl ⟨by rfl, fun w' hSw => ?_⟩
        obtain ⟨hSw0, hSw1, hSw2, hSw3, hSw4, hSw5, hSw6, hSw7, hSw8, hSw9⟩ := hSw
        go_simp
        try with_reducible rfl
       try simp only [Act.put, yA, yB, yC]
       refine till_at (i := 10) (d := some 76) (v := ?_) (by kernel_rfl) (by kernel_rfl) (by kernel_rfl) (by kernel_rfl) (by kernel_rfl) (fun _ _ _ h => h) (fun o ho => ?_) hS0 ?_
       rotate_left
       ·simp only [zA, zB, zC, zD] at ho
        subst ho
        refine Or.inl ⟨by rfl, fun w' hSw => ?_⟩
        obtain ⟨hSw0, hSw1, hSw2, hSw3, hSw4, hSw5, hSw6, hSw7, hSw8, hSw9⟩ := hSw
        go_simp
        try with_reducible rfl
       try simp only [Act.put, yA, yB, yC]
       refine till_at (i := 11) (d := some 77) (v := ?_) (by kernel_rfl) (by kernel_rfl) (by kernel_rfl) (by kernel_rfl) (by kernel_rfl) (fun _ _ _ h => h) (fun o ho => ?_) hS0 ?_
       rotate_left
       ·simp only [zA, zB, zC, zD] at ho
        subst ho
        refine Or.inl ⟨by rfl, fun w' hSw => ?_⟩
        obtain ⟨hSw0, hSw1, hSw2, hSw3, hSw4, hSw5, hSw6, hSw7, hSw8, hSw9⟩ := hSw
        go_simp
        try with_reducible rfl
       try simp only [Act.put, yA, yB, yC]
       refine till_at (i := 12) (d := some 78) (v := ?_) (by kernel_rfl) (by kernel_rfl) (by kernel_rfl) (by kernel_rfl) (by kernel_rfl) (fun _ _ _ h => h) (fun o ho => ?_) hS0 ?_
       rotate_left
       ·simp only [zA, zB, zC, zD] at ho
        subst ho
        refine Or.inl ⟨by rfl, fun w' hSw => ?_⟩
        obtain ⟨hSw0, hSw1, hSw2, hSw3, hSw4, hSw5, hSw6, hSw7, hSw8, hSw9⟩ := hSw
        go_simp
        try with_reducible rfl
       try simp only [Act.put, yA, yB, yC]
       refine till_at (i := 13) (d := some 79) (v := ?_) (by kernel_rfl) (by kernel_rfl) (by kernel_rfl) (by kernel_rfl) (by kernel_rfl) (fun _ _ _ h => h) (fun o ho => ?_) hS0 ?_
       rotate_left
       ·simp only [zA, zB, zC, zD] at ho
        subst ho
        refine Or.inl ⟨by rfl, fun w' hSw => ?_⟩
        obtain ⟨hSw0, hSw1, hSw2, hSw3, hSw4, hSw5, hSw6, hSw7, hSw8, hSw9⟩ := hSw
        go_simp
        try with_reducible rfl
       try simp only [Act.put, yA, yB, yC]
       refine till_at (i := 14) (d := some 80) (v := ?_) (by kernel_rfl) (by kernel_rfl) (by kernel_rfl) (by kernel_rfl) (by kernel_rfl) (fun _ _ _ h => h) (fun o ho => ?_) hS0 ?_
       rotate_left
       ·simp only [zA, zB, zC, zD] at ho
        subst ho
        refine Or.inl ⟨by rfl, fun w' hSw => ?_⟩
        obtain ⟨hSw0, hSw1, hSw2, hSw3, hSw4, hSw5, hSw6, hSw7, hSw8, hSw9⟩ := hSw
        go_simp
        try with_reducible rfl
       try simp only [Act.put, yA, yB, yC]
       refine till_at (i := 15) (d := some 81) (v := ?_) (by kernel_rfl) (by kernel_rfl) (by kernel_rfl) (by kernel_rfl) (by kernel_rfl) (fun _ _ _ h => h) (fun o ho => ?_) hS0 ?_
       rotate_left
       ·simp only [zA, zB, zC, zD] at ho
        subst ho
        refine Or.inl ⟨by rfl, fun w' hSw => ?_⟩
        obtain ⟨hSw0, hSw1, hSw2, hSw3, hSw4, hSw5, hSw6, hSw7, hSw8, hSw9⟩ := hSw
        go_simp
        try with_reducible rfl
       try simp only [Act.put, yA, yB, yC]
       refine till_at (i := 16) (d := some 82) (v := ?_) (by kernel_rfl) (by kernel_rfl) (by kernel_rfl) (by kernel_rfl) (by kernel_rfl) (fun _ _ _ h => h) (fun o ho => ?_) hS0 ?_
       rotate_left
       ·simp only [zA, zB, zC, zD] at ho
        subst ho
        refine Or.inl ⟨by rfl, fun w' hSw => ?_⟩
        obtain ⟨hSw0, hSw1, hSw2, hSw3, hSw4, hSw5, hSw6, hSw7, hSw8, hSw9⟩ := hSw
        go_simp
        try with_reducible rfl
       try simp only [Act.put, yA, yB, yC]
       refine till_step (i := 17) (by kernel_rfl) (by kernel_rfl) (fun o ho K' hK => ?_)
       simp only [zA, zB, zC, zD] at ho
       subst ho
       go_simp
       refine hK.out _ _ (fun h => absurd rfl h) (fun _ => ?_)
       clear hK K'
       try simp only [Act.put, yA, yB, yC]
       refine till_done (by kernel_rfl) ?_ _
       try simp only [Act.put, yA, yB, yC]
       have hfin := HST.out wb HXB.out
       rw [HSS.out] at hfin
       have HF := Lib.hid hfin
       clear hfin
       gi_wp2
       refine ⟨⟨q + 1, by omega, by go_num, HF.out.1.ext' (by repeat (first | exact Ext.refl _ | apply Ext.drew)), ?_⟩, by simp [intOf]; omega⟩
       exact ((HTI.out.1.out.trans (Touch.of_ext HXB.out)).trans HF.out.2).trans (Touch.of_ext (by repeat (first | exact Ext.refl _ | apply Ext.drew)))
      ·have t2 : decide ((q : Int) < (Y.length : Int)) = false := by simpa using hqt
       have hI2 : Hid (OutI w (w1.heap.size + 1) (mix (hulls P0 x.wea) P0 (j + 1)) ov1 gs1 vs1 O1 wr) := by
        have h := hI.out
        rw [mix_all (z := List.zipWith hull Q Y) (p := Q) (by rw [HZL.out]; have := HYQ.out; omega) (by have := HYQ.out; omega), mix_set HZ.out HZJ.out] at h
        exact h
       clear hI
       gi_wp2
       exact ⟨⟨j + 1, by omega, by go_num, hI2, hT⟩, by simp [intOf]; omega⟩
    ·have t1 : decide ((j : Int) < (x.wea.length : Int)) = false := by simpa using hlt
     have h := hI.out
     rw [mix_all (by rw [HZ.out, HPL.out]; omega) (by rw [HPL.out]; omega)] at h
     have HF := Lib.hid (HFIN.out wr h hT.out)
     clear h hI
     gi_wp2
     exact HF.out
 case hdone =>
  rintro D O W hD hO ⟨ov, gs, vs, hI, _, hkl⟩ hd
  rw [weaTo_all] at hI hkl
  have o1 := hI.o
  have HI := Lib.hid hI
  have HKL := Lib.hid hkl
  have hq := Quiet.putObj (n := w.heap.size) (.deferred none) hd (by omega) rfl
  have HQ := Lib.hid hq
  have hform : ∃ a n c, ov = .slice a n c := by obtain ⟨_, ⟨rfl, _⟩ | ⟨g, cap, cur, rfl, _⟩⟩ := hI.own <;> exact ⟨_, _, _, rfl⟩
  obtain ⟨va, vn, vc, rfl⟩ := hform
  clear hI hkl hq h0
  gi_wp2
  refine ⟨by simp, .inl ⟨_, _, rfl, run_takeDeferred hd, ?_⟩⟩
  have hI2 := HI.out.quiet HQ.out (Nat.le_refl _) HKL.out
  exact ⟨_, by simp [results, Tryz.results15, go_sem], HRES.out _ _ hI2.ext (hI2.spans _ (fun _ h => h.elim))⟩
end
theorem Weather_any (bv sv : Value) (b : Book) (s : Sack) (w : World) (hb : BookAt w bv b) (hs : SackAt w sv s) : Calls Tryz.prog 15 #[bv, sv] w (WeatherRes b s w) := by
 by_cases hn : askN b s true = 0
 ·exact Weather_yes bv sv b s w hb hs hn
 ·exact Weather_no bv sv b s w hb hs hn
end Go.Proofs.YtiodjapdiflphaaGreatDoor
