/- What a walk of the layer order leans on, in no program: worlds that only grow, slices that read as lists. -/
import Derived.WalkKit
import Derived.WalkLawsBesides
import Derived.WalkSpells
import Derived.KernelRfl
import Derived.Lib.Hide
import Derived.Laws.AppendOwnNone
import Derived.Test.YtokananogogjaaaGreatDoorProg
import Derived.Shelf.Abstract
namespace Go.Proofs.YtokananogogjaaaGreatDoor
open Go.RowKit
/-! ### Short names for the walks' simp lists -/
theorem zA {α : Type _} {xs : List α} {i : Nat} : xs.toArray[i]? = xs[i]? := List.getElem?_toArray
theorem zB {α : Type _} {a : α} {l : List α} : (a :: l)[0]? = some a := rfl
theorem zC {α : Type _} {a : α} {l : List α} {i : Nat} : (a :: l)[i + 1]? = l[i]? := rfl
theorem zD {α : Type _} {a b : α} : (some a = some b) = (a = b) := Option.some.injEq a b
theorem yA {α : Type _} (l : List α) (i : Nat) (a : α) : l.toArray.setIfInBounds i a = (l.set i a).toArray := List.setIfInBounds_toArray l i a
theorem yB {α : Type _} {x : α} {xs : List α} {a : α} : (x :: xs).set 0 a = a :: xs := rfl
theorem yC {α : Type _} {x : α} {xs : List α} {i : Nat} {a : α} : (x :: xs).set (i + 1) a = x :: xs.set i a := rfl
/-! ### Worlds that only grow -/
/-- w' is w with new blocks: whatever lay in w lies as it lay. -/
def Ext (w w' : World) : Prop := Below w.heap.size w w'
theorem Ext.refl (w : World) : Ext w w := Below.refl _ w
theorem Ext.size {w w' : World} (h : Ext w w') : w.heap.size ≤ w'.heap.size := Below.size h
theorem Ext.trans {a b c : World} (h : Ext a b) (k : Ext b c) : Ext a c := Below.trans h (Below.mono k h.size)
theorem Ext.alloc {a w : World} (h : Ext a w) (o : Obj) : Ext a (w.alloc o) := Below.alloc h h.size o
theorem Ext.drew {a w : World} (h : Ext a w) : Ext a w.drew := Below.drew h
theorem Ext.drewN {a w : World} (h : Ext a w) (n : Nat) : Ext a (w.drewN n) := below_drewN h n
theorem Ext.setCell {a w : World} (h : Ext a w) {p : Addr} (hp : a.heap.size ≤ p.block) (u : Value) : Ext a (w.setCell p u) := Below.setCell h hp u
theorem Ext.grown {a w w' : World} {row : Option Nat} (h : Ext a w) (hg : w.grownBy w' row) (hr : ∀ k, row = some k → a.heap.size ≤ k) : Ext a w' := Below.grown h hg h.size hr
/-- A world that grew, shown step by step. -/
theorem eC {a b : World} (h : Ext a b := by repeat (first | with_reducible assumption | with_reducible exact Ext.refl _ | with_reducible apply Ext.drew | with_reducible apply Ext.alloc)) : Ext a b := h
theorem eS {a b : World} (h : Ext a b := by repeat (first | with_reducible assumption | with_reducible exact Ext.refl _ | with_reducible apply Ext.drew | with_reducible apply Ext.alloc | with_reducible refine Ext.setCell ?_ (by first | (simp only []; omega) | (simp only [World.heap_drew]; omega)) _)) : Ext a b := h
theorem Ext.block {w w' : World} (h : Ext w w') {b : Nat} (hb : b < w.heap.size) : w'.heap[b]? = w.heap[b]? := Below.block h b hb
theorem lt_of_cell {w : World} {a : Addr} {v : Value} (h : w.cell? a = some v) : a.block < w.heap.size := by
 unfold World.cell? at h
 cases ho : w.heap[a.block]? with
 | none => simp [ho] at h
 | some o => exact (Array.getElem?_eq_some_iff.1 ho).1
theorem Ext.cell {w w' : World} (h : Ext w w') {a : Addr} {v : Value} (hc : w.cell? a = some v) : w'.cell? a = some v := (Below.cell h (lt_of_cell hc)).trans hc
theorem Ext.frozen {w w' : World} (h : Ext w w') {a : Addr} (hc : a.block < w.heap.size) : w'.frozen? a = w.frozen? a := Below.frozen h hc
/-- What the walk wants of a callee's world: the old cells, as rules. -/
theorem Ext.cells {w w' : World} (h : Ext w w') : (∀ b o, b < w.heap.size → w'.cell? ⟨b, o, none⟩ = w.cell? ⟨b, o, none⟩) ∧ (∀ b o, b < w.heap.size → w'.frozen? ⟨b, o, none⟩ = w.frozen? ⟨b, o, none⟩) :=
 ⟨fun b o hb => Below.cell (p := ⟨b, o, none⟩) h hb, fun b o hb => Below.frozen (p := ⟨b, o, none⟩) h hb⟩
/-! ### Slices that read as lists -/
/-- The slice v has n elements; its cells hold cs. -/
def RowAt (w : World) (v : Value) (n : Nat) (cs : List Value) : Prop :=
 ∃ a c, v = .slice a n c ∧ n ≤ c ∧ c ≤ maxLen ∧ (a = none → c = 0) ∧ ∀ j u, cs[j]? = some u → ∃ b o, a = some ⟨b, o, none⟩ ∧ w.cell? ⟨b, o + j, none⟩ = some u
theorem RowAt.ext {w w' : World} {v : Value} {n : Nat} {cs : List Value} (h : RowAt w v n cs) (k : Ext w w') : RowAt w' v n cs := by
 obtain ⟨a, c, hv, h1, h2, h0, h3⟩ := h
 exact ⟨a, c, hv, h1, h2, h0, fun j u hj => by obtain ⟨b, o, ha, hc⟩ := h3 j u hj; exact ⟨b, o, ha, k.cell hc⟩⟩
theorem RowAt.nil (w : World) : RowAt w (.slice none 0 0) 0 [] := ⟨none, 0, rfl, Nat.le_refl _, Nat.zero_le _, fun _ => rfl, fun j u h => by simp at h⟩
/-- What the call owns reads as a list. -/
theorem RowAt.of_owns {w : World} {base : Nat} {e : TypeId} {size : Nat} {v : Value} {n : Nat} {cs : List Value} (h : w.ownsRow base e size v n cs) : RowAt w v n cs := by
 obtain ⟨h1, ⟨rfl, rfl⟩ | ⟨g, cap, cur, rfl, hg, hh, hn, hc, hs, ht⟩⟩ := h
 ·simp at h1; subst h1; exact RowAt.nil w
 ·refine ⟨_, cap, rfl, hn, hc, (fun h => by cases h), fun j u hj => ⟨g, 0, rfl, ?_⟩⟩
  have := World.ownsRow.cells (w := w) (base := base) (e := e) (size := size) (v := .slice (some ⟨g, 0, none⟩) n cap) (n := n) (xs := cs) ⟨h1, .inr ⟨g, cap, cur, rfl, hg, hh, hn, hc, hs, ht⟩⟩ rfl j u hj
  rcases Nat.eq_zero_or_pos j with rfl | h0
  ·simpa [Addr.add] using this
  ·simpa [Addr.add, Nat.ne_of_gt h0] using this
/-- A slice of integers. -/
def IntsAt (w : World) (v : Value) (xs : List Int) : Prop := RowAt w v xs.length (xs.map (.int .i64))
theorem IntsAt.ext {w w' : World} {v : Value} {xs : List Int} (h : IntsAt w v xs) (k : Ext w w') : IntsAt w' v xs := RowAt.ext h k
theorem IntsAt.nil (w : World) : IntsAt w (.slice none 0 0) [] := RowAt.nil w
/-- The parts of a slice, as a walk wants them. -/
theorem RowAt.open {w : World} {v : Value} {n : Nat} {cs : List Value} (h : RowAt w v n cs) : ∃ a c, v = .slice a n c ∧ n ≤ c ∧ c ≤ 9223372036854775807 ∧ ∀ j u, cs[j]? = some u → ∃ b o, a = some ⟨b, o, none⟩ ∧ w.cell? ⟨b, o + j, none⟩ = some u := by
 obtain ⟨a, c, hv, h1, h2, _, h3⟩ := h
 exact ⟨a, c, hv, h1, h2, h3⟩
theorem IntsAt.open {w : World} {v : Value} {xs : List Int} (h : IntsAt w v xs) : ∃ a c, v = .slice a xs.length c ∧ xs.length ≤ c ∧ c ≤ 9223372036854775807 ∧ ∀ i, i < xs.length → ∃ b o x, a = some ⟨b, o, none⟩ ∧ Hid (xs[i]? = some x) ∧ w.cell? ⟨b, o + i, none⟩ = some (.int .i64 x) := by
 obtain ⟨a, c, hv, h1, h2, _, h3⟩ := h
 refine ⟨a, c, hv, h1, h2, fun i hi => ?_⟩
 obtain ⟨b, o, ha, hc⟩ := h3 i (.int .i64 xs[i]) (by simp [hi])
 exact ⟨b, o, xs[i], ha, (by simp [Hid, hi]), hc⟩
/-- A block that was just laid reads as a row. -/
theorem RowAt.new (w : World) (cs : Array Value) (e : TypeId) (n c : Nat) (hn : n ≤ c) (hc : c ≤ maxLen) : RowAt (w.alloc (.cells cs e)) (.slice (some ⟨w.heap.size, 0, none⟩) n c) n cs.toList := by
 refine ⟨_, c, rfl, hn, hc, (fun h => by cases h), fun j u hj => ⟨_, 0, rfl, ?_⟩⟩
 simp only [World.cell?, Nat.zero_add, World.alloc]
 simp at hj
 simp [hj]
/-! ### Appending -/
/-- What the program's table says of a slice type and its elements. -/
structure Elem (P : Program) (t e size bytes : Nat) (z : Value) : Prop where
 slice : P.underlying t = some (.slice e)
 info : ∃ i, P.info? e = some i ∧ i.zero = some z ∧ i.size = size ∧ i.bytes = bytes
 zero : z.cells.size = size
 pos : 0 < size
section append
variable {P : Program} {w : World} {t e size bytes : Nat} {z : Value}
theorem run_append_row (E : Elem P t e size bytes z) (ty base : Nat) {v : Value} {k : Nat} {xs : List Value} (hown : w.ownsRow base e size v k xs) {xv : Value} {m : Nat} {news : List Value}
  (hrow : RowAt w xv m news) (hl : news.length = m * size) (h1 : ∀ u ∈ news, u.oneCell' = true) (b1 : k + m ≤ maxLen) (b2 : (k + m) * bytes ≤ 140737488355328) (b3 : base ≤ w.heap.size) :
  ∃ v' w', (Builtin.append_ #[t, t] ty #[v, xv]).run P w = .ok v' w' ∧ w'.ownsRow base e size v' (k + m) (xs ++ news) ∧ w.grownBy w' v.ownBlock ∧ (v' = .slice none 0 0 ↔ v = .slice none 0 0 ∧ m = 0) := by
 obtain ⟨i, hi, hz, hs, hb⟩ := E.info
 obtain ⟨a, c, rfl, hn, hc, h0, hcell⟩ := hrow
 cases a with
 | none =>
  obtain rfl := h0 rfl
  obtain rfl : m = 0 := by omega
  have hnil : news = [] := by simpa using hl
  subst hnil
  exact ⟨v, w, run_append_owned_none w base t ty e i size E.slice hi v k xs hown, by simpa using hown, World.grownBy.refl _ _, by simp⟩
 | some ad =>
  refine run_append_own w base t ty e i z size bytes E.slice hi hz hs hb E.zero E.pos v k xs hown ad m c news hl (fun j u hj => ?_) h1 b1 b2 b3
  obtain ⟨b, o, ha, hc⟩ := hcell j u hj
  cases ha
  rcases Nat.eq_zero_or_pos j with rfl | h0
  ·simpa [Addr.add] using hc
  ·simpa [Addr.add, Nat.ne_of_gt h0] using hc
/-- append, as one step of a region that draws its order. -/
theorem step_append_row (E : Elem P t e size bytes z) {ops : Array Oper} {o : Oper} {a : Act} {K : Act → World → Prop} {Q : Exit → Act → World → Prop} {E' : Prop} (hw : Region.wanted o (yielded ops a.tmps) = true) (s x : Operand)
  (hop : o.op = Op.call { callee := Callee.builtin Builtin.append, args := #[s, x], argTypes := #[t, t] }) (base : Nat) {v : Value} {k : Nat} {xs : List Value} (hs : a.eval s = v) (hown : w.ownsRow base e size v k xs)
  {xv : Value} {m : Nat} {news : List Value} (hx : a.eval x = xv) (hrow : RowAt w xv m news) (hl : news.length = m * size) (h1 : ∀ u ∈ news, u.oneCell' = true) (b1 : k + m ≤ maxLen) (b2 : (k + m) * bytes ≤ 140737488355328) (b3 : base ≤ w.heap.size)
  (hK : ∀ v' w', w'.ownsRow base e size v' (k + m) (xs ++ news) → w.grownBy w' v.ownBlock → (v' = .slice none 0 0 ↔ v = .slice none 0 0 ∧ m = 0) → K (a.put o.dst v') w') :
  if Region.wanted o (yielded ops a.tmps) = true then Oper.wp P o a w K Q else E' := by
 rw [if_pos hw]
 obtain ⟨v', w', hrun, h2, h3, h4⟩ := run_append_row E o.type base hown hrow hl h1 b1 b2 b3
 unfold Oper.wp
 simp [execOp, hop, resolve, invoke, builtin, hs, hx, hrun, Result.andThen]
 exact hK v' w' h2 h3 h4
theorem wpList_append_row (E : Elem P t e size bytes z) {ops : Array Oper} {rest : List Oper} {o : Oper} {a : Act} {Q : Exit → Act → World → Prop} (hg : o.guard = none) (s x : Operand)
  (hop : o.op = Op.call { callee := Callee.builtin Builtin.append, args := #[s, x], argTypes := #[t, t] }) (base : Nat) {v : Value} {k : Nat} {xs : List Value} (hs : a.eval s = v) (hown : w.ownsRow base e size v k xs)
  {xv : Value} {m : Nat} {news : List Value} (hx : a.eval x = xv) (hrow : RowAt w xv m news) (hl : news.length = m * size) (h1 : ∀ u ∈ news, u.oneCell' = true)
  (hK : ∀ v' w', w'.ownsRow base e size v' (k + m) (xs ++ news) → w.grownBy w' v.ownBlock → (v' = .slice none 0 0 ↔ v = .slice none 0 0 ∧ m = 0) → wpList P ops Q rest (a.put o.dst v') w') (b1 : k + m ≤ maxLen) (b2 : (k + m) * bytes ≤ 140737488355328) (b3 : base ≤ w.heap.size) : wpList P ops Q (o :: rest) a w := by
 obtain ⟨i, hi, hz, hsz, hb⟩ := E.info
 obtain ⟨a', c, rfl, hn, hc, h0, hcell⟩ := hrow
 cases a' with
 | none =>
  obtain rfl := h0 rfl
  obtain rfl : m = 0 := by omega
  have hnil : news = [] := by simpa using hl
  subst hnil
  exact wpList_append_own_none hg s x t hop base e i size E.slice hi v k xs hs hown hx (hK v w (by simpa using hown) (World.grownBy.refl _ _) (by simp))
 | some ad =>
  refine wpList_append_own w hg s x t hop base e i z size bytes E.slice hi hz hsz hb E.zero E.pos v k xs hs hown ad m c news hx hl (fun j u hj => ?_) h1 b1 b2 b3 hK
  obtain ⟨b, o, ha, hc⟩ := hcell j u hj
  cases ha
  rcases Nat.eq_zero_or_pos j with rfl | h0
  ·simpa [Addr.add] using hc
  ·simpa [Addr.add, Nat.ne_of_gt h0] using hc
end append
/-- A slice that owns an element at least is written out. -/
theorem owns_succ {W : World} {base : Nat} {e : TypeId} {size : Nat} {v : Value} {k : Nat} {xs : List Value} (h : W.ownsRow base e size v (k + 1) xs) : ∃ g cap, v = .slice (some ⟨g, 0, none⟩) (k + 1) cap := by
 rcases h.2 with ⟨_, h0⟩ | ⟨g, cap, _, rfl, _⟩
 ·omega
 ·exact ⟨g, cap, rfl⟩
/-- The block of what is owned lies from base on. -/
theorem owns_block {W : World} {base : Nat} {e : TypeId} {size : Nat} {v : Value} {k : Nat} {xs : List Value} (h : W.ownsRow base e size v k xs) : ∀ g, v.ownBlock = some g → base ≤ g := fun g hg => (World.ownsRow.lt h g hg).1
theorem one_le_maxLen : 1 ≤ maxLen := by unfold maxLen; omega
theorem RowAt.new1 (w : World) (cs : Array Value) (e : TypeId) : RowAt (w.alloc (.cells cs e)) (.slice (some ⟨w.heap.size, 0, none⟩) 1 1) 1 cs.toList := RowAt.new w cs e 1 1 (Nat.le_refl _) one_le_maxLen
/-- 'out = append(out, x)': x has just been laid in a block of its own. -/
theorem wpList_push {P : Program} {w : World} {t e size bytes : Nat} {z : Value} (E : Elem P t e size bytes z) {ops : Array Oper} {rest : List Oper} {o : Oper} {a : Act} {Q : Exit → Act → World → Prop} (hg : o.guard = none) (s x : Operand)
  (hop : o.op = Op.call { callee := Callee.builtin Builtin.append, args := #[s, x], argTypes := #[t, t] }) (base : Nat) {v : Value} {k : Nat} {xs : List Value} (hs : a.eval s = v) (hown : w.ownsRow base e size v k xs)
  {cs : Array Value} {e' : TypeId} (hx : a.eval x = .slice (some ⟨w.heap.size, 0, none⟩) 1 1) (hl : cs.size = size) (h1 : ∀ u ∈ cs.toList, u.oneCell' = true)
  (hK : ∀ g cap w', w'.ownsRow base e size (.slice (some ⟨g, 0, none⟩) (k + 1) cap) (k + 1) (xs ++ cs.toList) → (∀ a0, Ext a0 w → a0.heap.size ≤ base → Ext a0 w') → (w.alloc (.cells cs e')).grownBy w' v.ownBlock → wpList P ops Q rest (a.put o.dst (.slice (some ⟨g, 0, none⟩) (k + 1) cap)) w') (b1 : k + 1 ≤ maxLen) (b2 : (k + 1) * bytes ≤ 140737488355328) (b3 : base ≤ w.heap.size) :
  wpList P ops Q (o :: rest) a (w.alloc (.cells cs e')) := by
 refine wpList_append_row E hg s x hop base hs (hown.alloc _) hx (RowAt.new1 w cs e') (by simp [hl]) h1 ?_ b1 b2 (by simp; omega)
 intro v' w' ho hgr _
 obtain ⟨g, cap, rfl⟩ := owns_succ ho
 exact hK g cap w' ho (fun a0 ha hb => (ha.alloc _).grown hgr (fun k hk => by have := owns_block hown k hk; omega)) hgr
/-- A number lies between two others. -/
def inB (x lo hi : Int) : Bool := decide (lo ≤ x) && decide (x ≤ hi)
theorem inB_iff {x lo hi : Int} : inB x lo hi = true ↔ lo ≤ x ∧ x ≤ hi := by simp [inB]
end Go.Proofs.YtokananogogjaaaGreatDoor
/- Rows of structs; lists. -/
namespace Go.Proofs.YtokananogogjaaaGreatDoor
open Go.RowKit
theorem any_take_succ {α : Type} (p : α → Bool) {xs : List α} {k : Nat} {x : α} (hx : xs[k]? = some x) : (xs.take (k + 1)).any p = ((xs.take k).any p || p x) := by
 rw [List.take_add_one, hx]; simp
theorem any_of_at {α : Type} (p : α → Bool) {xs : List α} {k : Nat} {x : α} (hx : xs[k]? = some x) (hp : p x = true) : xs.any p = true := by
 simp only [List.any_eq_true]; exact ⟨x, List.mem_of_getElem? hx, hp⟩
theorem flatMap_at {α β : Type} (f : α → List β) (n : Nat) (hn : ∀ x, (f x).length = n) : ∀ (l : List α) (i j : Nat) (x : α), l[i]? = some x → j < n → (l.flatMap f)[i * n + j]? = (f x)[j]?
 | [], i, j, x, h, _ => by simp at h
 | y :: l, 0, j, x, h, hj => by
  simp at h; subst h
  simp only [List.flatMap_cons, Nat.zero_mul, Nat.zero_add]
  rw [List.getElem?_append_left (by rw [hn]; exact hj)]
 | y :: l, i + 1, j, x, h, hj => by
  simp only [List.flatMap_cons]
  rw [List.getElem?_append_right (by rw [hn, Nat.succ_mul]; omega), hn]
  rw [show (i + 1) * n + j - n = i * n + j from by rw [Nat.succ_mul]; omega]
  exact flatMap_at f n hn l i j x (by simpa using h) hj
/-- A slice of structs: the cells of each, one after the other. -/
def RowOf {α : Type} (f : α → List Value) (w : World) (v : Value) (xs : List α) : Prop := RowAt w v xs.length (xs.flatMap f)
theorem RowOf.ext {α : Type} {f : α → List Value} {w w' : World} {v : Value} {xs : List α} (h : RowOf f w v xs) (k : Ext w w') : RowOf f w' v xs := RowAt.ext h k
theorem RowOf.nil {α : Type} (f : α → List Value) (w : World) : RowOf f w (.slice none 0 0) [] := RowAt.nil w
theorem RowOf.key {α : Type} {f : α → List Value} {n : Nat} (hn : ∀ x, (f x).length = n) (hp : 0 < n) {w : World} {v : Value} {xs : List α} (h : RowOf f w v xs) : ∃ a c, v = .slice a xs.length c ∧ xs.length ≤ c ∧ c ≤ 9223372036854775807 ∧
  ∀ i, i < xs.length → ∃ b o x, a = some ⟨b, o, none⟩ ∧ Hid (xs[i]? = some x) ∧ ∀ j u, j < n → (f x)[j]? = some u → w.cell? ⟨b, o + (i * n + j), none⟩ = some u := by
 obtain ⟨a, c, hv, h1, h2, _, h3⟩ := h
 refine ⟨a, c, hv, h1, h2, fun i hi => ?_⟩
 have hx : xs[i]? = some xs[i] := by simp [hi]
 have key : ∀ j, j < n → ∀ u, (f xs[i])[j]? = some u → ∃ b o, a = some ⟨b, o, none⟩ ∧ w.cell? ⟨b, o + (i * n + j), none⟩ = some u := fun j hj u hu =>
  h3 (i * n + j) u (by rw [flatMap_at f n hn xs i j _ hx hj]; exact hu)
 have h0 : 0 < (f xs[i]).length := by rw [hn]; exact hp
 obtain ⟨b, o, rfl, _⟩ := key 0 hp (f xs[i])[0] (by simp [h0])
 refine ⟨b, o, xs[i], rfl, hx, fun j u hj hu => ?_⟩
 obtain ⟨b', o', e, hc⟩ := key j hj u hu
 cases e; exact hc
theorem RowOf.open2 {α : Type} {f : α → List Value} {f0 f1 : α → Value} (hf : ∀ x, f x = [f0 x, f1 x]) {w : World} {v : Value} {xs : List α} (h : RowOf f w v xs) : ∃ a c, v = .slice a xs.length c ∧ xs.length ≤ c ∧ c ≤ 9223372036854775807 ∧
  ∀ i, i < xs.length → ∃ b o x, a = some ⟨b, o, none⟩ ∧ Hid (xs[i]? = some x) ∧ w.cell? ⟨b, o + i * 2, none⟩ = some (f0 x) ∧ w.cell? ⟨b, o + i * 2 + 1, none⟩ = some (f1 x) := by
 obtain ⟨a, c, hv, h1, h2, h3⟩ := RowOf.key (n := 2) (fun x => by rw [hf]; rfl) (by omega) h
 refine ⟨a, c, hv, h1, h2, fun i hi => ?_⟩
 obtain ⟨b, o, x, ha, hx, hc⟩ := h3 i hi
 exact ⟨b, o, x, ha, hx, hc 0 _ (by omega) (by rw [hf]; rfl), hc 1 _ (by omega) (by rw [hf]; rfl)⟩
theorem RowOf.open3 {α : Type} {f : α → List Value} {f0 f1 f2 : α → Value} (hf : ∀ x, f x = [f0 x, f1 x, f2 x]) {w : World} {v : Value} {xs : List α} (h : RowOf f w v xs) : ∃ a c, v = .slice a xs.length c ∧ xs.length ≤ c ∧ c ≤ 9223372036854775807 ∧
  ∀ i, i < xs.length → ∃ b o x, a = some ⟨b, o, none⟩ ∧ Hid (xs[i]? = some x) ∧ w.cell? ⟨b, o + i * 3, none⟩ = some (f0 x) ∧ w.cell? ⟨b, o + i * 3 + 1, none⟩ = some (f1 x) ∧ w.cell? ⟨b, o + i * 3 + 2, none⟩ = some (f2 x) := by
 obtain ⟨a, c, hv, h1, h2, h3⟩ := RowOf.key (n := 3) (fun x => by rw [hf]; rfl) (by omega) h
 refine ⟨a, c, hv, h1, h2, fun i hi => ?_⟩
 obtain ⟨b, o, x, ha, hx, hc⟩ := h3 i hi
 exact ⟨b, o, x, ha, hx, hc 0 _ (by omega) (by rw [hf]; rfl), hc 1 _ (by omega) (by rw [hf]; rfl), hc 2 _ (by omega) (by rw [hf]; rfl)⟩
theorem RowOf.open4 {α : Type} {f : α → List Value} {f0 f1 f2 f3 : α → Value} (hf : ∀ x, f x = [f0 x, f1 x, f2 x, f3 x]) {w : World} {v : Value} {xs : List α} (h : RowOf f w v xs) : ∃ a c, v = .slice a xs.length c ∧ xs.length ≤ c ∧ c ≤ 9223372036854775807 ∧
  ∀ i, i < xs.length → ∃ b o x, a = some ⟨b, o, none⟩ ∧ Hid (xs[i]? = some x) ∧ w.cell? ⟨b, o + i * 4, none⟩ = some (f0 x) ∧ w.cell? ⟨b, o + i * 4 + 1, none⟩ = some (f1 x) ∧ w.cell? ⟨b, o + i * 4 + 2, none⟩ = some (f2 x) ∧ w.cell? ⟨b, o + i * 4 + 3, none⟩ = some (f3 x) := by
 obtain ⟨a, c, hv, h1, h2, h3⟩ := RowOf.key (n := 4) (fun x => by rw [hf]; rfl) (by omega) h
 refine ⟨a, c, hv, h1, h2, fun i hi => ?_⟩
 obtain ⟨b, o, x, ha, hx, hc⟩ := h3 i hi
 exact ⟨b, o, x, ha, hx, hc 0 _ (by omega) (by rw [hf]; rfl), hc 1 _ (by omega) (by rw [hf]; rfl), hc 2 _ (by omega) (by rw [hf]; rfl), hc 3 _ (by omega) (by rw [hf]; rfl)⟩
def IdxPost (w : World) (b : Bool) (e : Ending) (w' : World) : Prop := (∃ n : Int, e = .returned (.int .i64 n) ∧ decide (0 ≤ n) = b) ∧ Ext w w'
/-- A predicate that a function value answers, whatever has been laid since. -/
def PredV {α : Type} (w : World) (f : Nat) (cap : Array Value) (g : α → Value) (p : α → Bool) (xs : List α) : Prop :=
 ∀ x, x ∈ xs → ∀ w1, Ext w w1 → Calls Tryz.prog f (#[g x] ++ cap) w1 fun e w' => e = .returned (.bool (p x)) ∧ Ext w1 w'
theorem in_any (x lo hi : Int) (w : World) :
  Calls Tryz.prog 61 #[.int .i64 x, .int .i64 lo, .int .i64 hi] w fun e w' => e = .returned (.bool (inB x lo hi)) ∧ w = w' := by
 go_enter Tryz.func61, Tryz.ntmps61
 go_wp2
 all_goals go_ret
 all_goals simp [inB, *]
 omega
end Go.Proofs.YtokananogogjaaaGreatDoor
