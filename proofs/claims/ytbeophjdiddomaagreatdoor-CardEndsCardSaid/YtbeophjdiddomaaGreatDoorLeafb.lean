/- What a walk of the layer card leans on, in no program: worlds that only grow, slices that read as lists. -/
import Derived.WalkKit
import Derived.WalkLawsBesides
import Derived.WalkSpells
import Derived.KernelRfl
import Derived.Lib.Hide
import Derived.Laws.AppendOwnNone
import Derived.Test.YtbeophjdiddomaaGreatDoorProg
import Derived.Shelf.Abstract
namespace Go.Proofs.YtbeophjdiddomaaGreatDoor
open Go.RowKit

/-! ### Worlds that only grow -/
/-- w' is w with new blocks: whatever lay in w lies as it lay. -/
def Ext (w w' : World) : Prop := Below w.heap.size w w'

theorem Ext.refl (w : World) : Ext w w := Below.refl _ w
theorem Ext.size {w w' : World} (h : Ext w w') : w.heap.size ≤ w'.heap.size := Below.size h
theorem Ext.trans {a b c : World} (h : Ext a b) (k : Ext b c) : Ext a c := Below.trans h (Below.mono k h.size)
theorem Ext.alloc {a w : World} (h : Ext a w) (o : Obj) : Ext a (w.alloc o) := Below.alloc h h.size o
theorem Ext.drew {a w : World} (h : Ext a w) : Ext a w.drew := Below.drew h
theorem Ext.drewN {a w : World} (h : Ext a w) (n : Nat) : Ext a (w.drewN n) := below_drewN h n
theorem Ext.setCell {a w : World} (h : Ext a w) {p : Addr} (hp : a.heap.size ≤ p.block) (u : Value) : Ext a (w.setCell p u) := Below.setCell h hp u
theorem Ext.grown {a w w' : World} {row : Option Nat} (h : Ext a w) (hg : w.grownBy w' row) (hr : ∀ k, row = some k → a.heap.size ≤ k) : Ext a w' := Below.grown h hg h.size hr
theorem Ext.block {w w' : World} (h : Ext w w') {b : Nat} (hb : b < w.heap.size) : w'.heap[b]? = w.heap[b]? := Below.block h b hb

theorem lt_of_cell {w : World} {a : Addr} {v : Value} (h : w.cell? a = some v) : a.block < w.heap.size := by
  unfold World.cell? at h
  cases ho : w.heap[a.block]? with
  | none => simp [ho] at h
  | some o => exact (Array.getElem?_eq_some_iff.1 ho).1
theorem Ext.cell {w w' : World} (h : Ext w w') {a : Addr} {v : Value} (hc : w.cell? a = some v) : w'.cell? a = some v := (Below.cell h (lt_of_cell hc)).trans hc
theorem Ext.frozen {w w' : World} (h : Ext w w') {a : Addr} (hc : a.block < w.heap.size) : w'.frozen? a = w.frozen? a := Below.frozen h hc

/-- What the walk wants of a callee's world: the old cells, as rules. -/
theorem Ext.cells {w w' : World} (h : Ext w w') : (∀ b o, b < w.heap.size → w'.cell? ⟨b, o, none⟩ = w.cell? ⟨b, o, none⟩) ∧ (∀ b o, b < w.heap.size → w'.frozen? ⟨b, o, none⟩ = w.frozen? ⟨b, o, none⟩) :=
  ⟨fun b o hb => Below.cell (p := ⟨b, o, none⟩) h hb, fun b o hb => Below.frozen (p := ⟨b, o, none⟩) h hb⟩

/-! ### Slices that read as lists -/
/-- The slice v has n elements; its cells hold cs. -/
def RowAt (w : World) (v : Value) (n : Nat) (cs : List Value) : Prop :=
  ∃ a c, v = .slice a n c ∧ n ≤ c ∧ c ≤ maxLen ∧ (a = none → c = 0) ∧ ∀ j u, cs[j]? = some u → ∃ b o, a = some ⟨b, o, none⟩ ∧ w.cell? ⟨b, o + j, none⟩ = some u

theorem RowAt.ext {w w' : World} {v : Value} {n : Nat} {cs : List Value} (h : RowAt w v n cs) (k : Ext w w') : RowAt w' v n cs := by
  obtain ⟨a, c, hv, h1, h2, h0, h3⟩ := h
  exact ⟨a, c, hv, h1, h2, h0, fun j u hj => by obtain ⟨b, o, ha, hc⟩ := h3 j u hj; exact ⟨b, o, ha, k.cell hc⟩⟩

theorem RowAt.nil (w : World) : RowAt w (.slice none 0 0) 0 [] := ⟨none, 0, rfl, Nat.le_refl _, Nat.zero_le _, fun _ => rfl, fun j u h => by simp at h⟩

/-- What the call owns reads as a list. -/
theorem RowAt.of_owns {w : World} {base : Nat} {e : TypeId} {size : Nat} {v : Value} {n : Nat} {cs : List Value} (h : w.ownsRow base e size v n cs) : RowAt w v n cs := by
  obtain ⟨h1, ⟨rfl, rfl⟩ | ⟨g, cap, cur, rfl, hg, hh, hn, hc, hs, ht⟩⟩ := h
  · simp at h1; subst h1; exact RowAt.nil w
  · refine ⟨_, cap, rfl, hn, hc, (fun h => by cases h), fun j u hj => ⟨g, 0, rfl, ?_⟩⟩
    have := World.ownsRow.cells (w := w) (base := base) (e := e) (size := size) (v := .slice (some ⟨g, 0, none⟩) n cap) (n := n) (xs := cs) ⟨h1, .inr ⟨g, cap, cur, rfl, hg, hh, hn, hc, hs, ht⟩⟩ rfl j u hj
    rcases Nat.eq_zero_or_pos j with rfl | h0
    · simpa [Addr.add] using this
    · simpa [Addr.add, Nat.ne_of_gt h0] using this

/-- A slice of integers. -/
def IntsAt (w : World) (v : Value) (xs : List Int) : Prop := RowAt w v xs.length (xs.map (.int .i64))
theorem IntsAt.ext {w w' : World} {v : Value} {xs : List Int} (h : IntsAt w v xs) (k : Ext w w') : IntsAt w' v xs := RowAt.ext h k
theorem IntsAt.nil (w : World) : IntsAt w (.slice none 0 0) [] := RowAt.nil w
/-- The parts of a slice, as a walk wants them. -/
theorem RowAt.open {w : World} {v : Value} {n : Nat} {cs : List Value} (h : RowAt w v n cs) : ∃ a c, v = .slice a n c ∧ n ≤ c ∧ c ≤ 9223372036854775807 ∧ ∀ j u, cs[j]? = some u → ∃ b o, a = some ⟨b, o, none⟩ ∧ w.cell? ⟨b, o + j, none⟩ = some u := by
  obtain ⟨a, c, hv, h1, h2, _, h3⟩ := h
  exact ⟨a, c, hv, h1, h2, h3⟩
theorem IntsAt.open {w : World} {v : Value} {xs : List Int} (h : IntsAt w v xs) : ∃ a c, v = .slice a xs.length c ∧ xs.length ≤ c ∧ c ≤ 9223372036854775807 ∧ ∀ i, i < xs.length → ∃ b o x, a = some ⟨b, o, none⟩ ∧ Hid (xs[i]? = some x) ∧ w.cell? ⟨b, o + i, none⟩ = some (.int .i64 x) := by
  obtain ⟨a, c, hv, h1, h2, _, h3⟩ := h
  refine ⟨a, c, hv, h1, h2, fun i hi => ?_⟩
  obtain ⟨b, o, ha, hc⟩ := h3 i (.int .i64 xs[i]) (by simp [hi])
  exact ⟨b, o, xs[i], ha, (by simp [Hid, hi]), hc⟩

/-- A block that was just laid reads as a row. -/
theorem RowAt.new (w : World) (cs : Array Value) (e : TypeId) (n c : Nat) (hn : n ≤ c) (hc : c ≤ maxLen) : RowAt (w.alloc (.cells cs e)) (.slice (some ⟨w.heap.size, 0, none⟩) n c) n cs.toList := by
  refine ⟨_, c, rfl, hn, hc, (fun h => by cases h), fun j u hj => ⟨_, 0, rfl, ?_⟩⟩
  simp only [World.cell?, Nat.zero_add, World.alloc]
  simp at hj
  simp [hj]

/-! ### Appending -/
/-- What the program's table says of a slice type and its elements. -/
structure Elem (P : Program) (t e size bytes : Nat) (z : Value) : Prop where
  slice : P.underlying t = some (.slice e)
  info : ∃ i, P.info? e = some i ∧ i.zero = some z ∧ i.size = size ∧ i.bytes = bytes
  zero : z.cells.size = size
  pos : 0 < size

section append
variable {P : Program} {w : World} {t e size bytes : Nat} {z : Value}

theorem run_append_row (E : Elem P t e size bytes z) (ty base : Nat) {v : Value} {k : Nat} {xs : List Value} (hown : w.ownsRow base e size v k xs) {xv : Value} {m : Nat} {news : List Value}
    (hrow : RowAt w xv m news) (hl : news.length = m * size) (h1 : ∀ u ∈ news, u.oneCell' = true) (b1 : k + m ≤ maxLen) (b2 : (k + m) * bytes ≤ 140737488355328) (b3 : base ≤ w.heap.size) :
    ∃ v' w', (Builtin.append_ #[t, t] ty #[v, xv]).run P w = .ok v' w' ∧ w'.ownsRow base e size v' (k + m) (xs ++ news) ∧ w.grownBy w' v.ownBlock ∧ (v' = .slice none 0 0 ↔ v = .slice none 0 0 ∧ m = 0) := by
  obtain ⟨i, hi, hz, hs, hb⟩ := E.info
  obtain ⟨a, c, rfl, hn, hc, h0, hcell⟩ := hrow
  cases a with
  | none =>
    obtain rfl := h0 rfl
    obtain rfl : m = 0 := by omega
    have hnil : news = [] := by simpa using hl
    subst hnil
    exact ⟨v, w, run_append_owned_none w base t ty e i size E.slice hi v k xs hown, by simpa using hown, World.grownBy.refl _ _, by simp⟩
  | some ad =>
    refine run_append_own w base t ty e i z size bytes E.slice hi hz hs hb E.zero E.pos v k xs hown ad m c news hl (fun j u hj => ?_) h1 b1 b2 b3
    obtain ⟨b, o, ha, hc⟩ := hcell j u hj
    cases ha
    rcases Nat.eq_zero_or_pos j with rfl | h0
    · simpa [Addr.add] using hc
    · simpa [Addr.add, Nat.ne_of_gt h0] using hc

/-- append, as one step of a region that draws its order. -/
theorem step_append_row (E : Elem P t e size bytes z) {ops : Array Oper} {o : Oper} {a : Act} {K : Act → World → Prop} {Q : Exit → Act → World → Prop} {E' : Prop} (hw : Region.wanted o (yielded ops a.tmps) = true) (s x : Operand)
    (hop : o.op = Op.call { callee := Callee.builtin Builtin.append, args := #[s, x], argTypes := #[t, t] }) (base : Nat) {v : Value} {k : Nat} {xs : List Value} (hs : a.eval s = v) (hown : w.ownsRow base e size v k xs)
    {xv : Value} {m : Nat} {news : List Value} (hx : a.eval x = xv) (hrow : RowAt w xv m news) (hl : news.length = m * size) (h1 : ∀ u ∈ news, u.oneCell' = true) (b1 : k + m ≤ maxLen) (b2 : (k + m) * bytes ≤ 140737488355328) (b3 : base ≤ w.heap.size)
    (hK : ∀ v' w', w'.ownsRow base e size v' (k + m) (xs ++ news) → w.grownBy w' v.ownBlock → (v' = .slice none 0 0 ↔ v = .slice none 0 0 ∧ m = 0) → K (a.put o.dst v') w') :
    if Region.wanted o (yielded ops a.tmps) = true then Oper.wp P o a w K Q else E' := by
  rw [if_pos hw]
  obtain ⟨v', w', hrun, h2, h3, h4⟩ := run_append_row E o.type base hown hrow hl h1 b1 b2 b3
  unfold Oper.wp
  simp [execOp, hop, resolve, invoke, builtin, hs, hx, hrun, Result.andThen]
  exact hK v' w' h2 h3 h4

theorem wpList_append_row (E : Elem P t e size bytes z) {ops : Array Oper} {rest : List Oper} {o : Oper} {a : Act} {Q : Exit → Act → World → Prop} (hg : o.guard = none) (s x : Operand)
    (hop : o.op = Op.call { callee := Callee.builtin Builtin.append, args := #[s, x], argTypes := #[t, t] }) (base : Nat) {v : Value} {k : Nat} {xs : List Value} (hs : a.eval s = v) (hown : w.ownsRow base e size v k xs)
    {xv : Value} {m : Nat} {news : List Value} (hx : a.eval x = xv) (hrow : RowAt w xv m news) (hl : news.length = m * size) (h1 : ∀ u ∈ news, u.oneCell' = true)
    (hK : ∀ v' w', w'.ownsRow base e size v' (k + m) (xs ++ news) → w.grownBy w' v.ownBlock → (v' = .slice none 0 0 ↔ v = .slice none 0 0 ∧ m = 0) → wpList P ops Q rest (a.put o.dst v') w') (b1 : k + m ≤ maxLen) (b2 : (k + m) * bytes ≤ 140737488355328) (b3 : base ≤ w.heap.size) : wpList P ops Q (o :: rest) a w := by
  obtain ⟨i, hi, hz, hsz, hb⟩ := E.info
  obtain ⟨a', c, rfl, hn, hc, h0, hcell⟩ := hrow
  cases a' with
  | none =>
    obtain rfl := h0 rfl
    obtain rfl : m = 0 := by omega
    have hnil : news = [] := by simpa using hl
    subst hnil
    exact wpList_append_own_none hg s x t hop base e i size E.slice hi v k xs hs hown hx (hK v w (by simpa using hown) (World.grownBy.refl _ _) (by simp))
  | some ad =>
    refine wpList_append_own w hg s x t hop base e i z size bytes E.slice hi hz hsz hb E.zero E.pos v k xs hs hown ad m c news hx hl (fun j u hj => ?_) h1 b1 b2 b3 hK
    obtain ⟨b, o, ha, hc⟩ := hcell j u hj
    cases ha
    rcases Nat.eq_zero_or_pos j with rfl | h0
    · simpa [Addr.add] using hc
    · simpa [Addr.add, Nat.ne_of_gt h0] using hc
end append

/-- A slice that owns an element at least is written out. -/
theorem owns_succ {W : World} {base : Nat} {e : TypeId} {size : Nat} {v : Value} {k : Nat} {xs : List Value} (h : W.ownsRow base e size v (k + 1) xs) : ∃ g cap, v = .slice (some ⟨g, 0, none⟩) (k + 1) cap := by
  rcases h.2 with ⟨_, h0⟩ | ⟨g, cap, _, rfl, _⟩
  · omega
  · exact ⟨g, cap, rfl⟩
/-- The block of what is owned lies from base on. -/
theorem owns_block {W : World} {base : Nat} {e : TypeId} {size : Nat} {v : Value} {k : Nat} {xs : List Value} (h : W.ownsRow base e size v k xs) : ∀ g, v.ownBlock = some g → base ≤ g := fun g hg => (World.ownsRow.lt h g hg).1

theorem one_le_maxLen : 1 ≤ maxLen := by unfold maxLen; omega
theorem RowAt.new1 (w : World) (cs : Array Value) (e : TypeId) : RowAt (w.alloc (.cells cs e)) (.slice (some ⟨w.heap.size, 0, none⟩) 1 1) 1 cs.toList := RowAt.new w cs e 1 1 (Nat.le_refl _) one_le_maxLen

/-- 'out = append(out, x)': x has just been laid in a block of its own. -/
theorem wpList_push {P : Program} {w : World} {t e size bytes : Nat} {z : Value} (E : Elem P t e size bytes z) {ops : Array Oper} {rest : List Oper} {o : Oper} {a : Act} {Q : Exit → Act → World → Prop} (hg : o.guard = none) (s x : Operand)
    (hop : o.op = Op.call { callee := Callee.builtin Builtin.append, args := #[s, x], argTypes := #[t, t] }) (base : Nat) {v : Value} {k : Nat} {xs : List Value} (hs : a.eval s = v) (hown : w.ownsRow base e size v k xs)
    {cs : Array Value} {e' : TypeId} (hx : a.eval x = .slice (some ⟨w.heap.size, 0, none⟩) 1 1) (hl : cs.size = size) (h1 : ∀ u ∈ cs.toList, u.oneCell' = true)
    (hK : ∀ g cap w', w'.ownsRow base e size (.slice (some ⟨g, 0, none⟩) (k + 1) cap) (k + 1) (xs ++ cs.toList) → (∀ a0, Ext a0 w → a0.heap.size ≤ base → Ext a0 w') → (w.alloc (.cells cs e')).grownBy w' v.ownBlock → wpList P ops Q rest (a.put o.dst (.slice (some ⟨g, 0, none⟩) (k + 1) cap)) w') (b1 : k + 1 ≤ maxLen) (b2 : (k + 1) * bytes ≤ 140737488355328) (b3 : base ≤ w.heap.size) :
    wpList P ops Q (o :: rest) a (w.alloc (.cells cs e')) := by
  refine wpList_append_row E hg s x hop base hs (hown.alloc _) hx (RowAt.new1 w cs e') (by simp [hl]) h1 ?_ b1 b2 (by simp; omega)
  intro v' w' ho hgr _
  obtain ⟨g, cap, rfl⟩ := owns_succ ho
  exact hK g cap w' ho (fun a0 ha hb => (ha.alloc _).grown hgr (fun k hk => by have := owns_block hown k hk; omega)) hgr

/-- A number lies between two others. -/
def inB (x lo hi : Int) : Bool := decide (lo ≤ x) && decide (x ≤ hi)
theorem inB_iff {x lo hi : Int} : inB x lo hi = true ↔ lo ≤ x ∧ x ≤ hi := by simp [inB]
end Go.Proofs.YtbeophjdiddomaaGreatDoor

/- What the functions of the layer card compute, in plain Lean: no program in sight. -/
namespace Go.Proofs.YtbeophjdiddomaaGreatDoor

/-! ### Rounds -/
structure House where
  out : Int
  cards : Int
  full : Int
  loose : Int
  miss : Int
  weighed : Int
structure Round where
  per : Int
  lo : Int
  hi : Int
  card : Int
  slack : Int
  houses : List House
  all : Int
  off : Int
def House.cells (h : House) : List Value := [.int .i64 h.out, .int .i64 h.cards, .int .i64 h.full, .int .i64 h.loose, .int .i64 h.miss, .int .i64 h.weighed]
def badHouse (h : House) : Bool := !inB h.out 0 3000 || !inB h.cards 0 60 || !inB h.full 0 60 || !inB h.loose 0 36 || !inB h.miss 0 3 || !inB h.weighed 0 200000
def isRoundB (r : Round) : Bool :=
  inB r.per 2 36 && inB r.lo 1 r.hi && decide (r.hi ≤ 50) && decide (r.hi - r.lo ≤ 4) && inB r.card 0 100 && inB r.slack 0 500 && inB r.houses.length 1 4 && inB r.all 0 12000 && inB r.off 0 100 && !r.houses.any badHouse

theorem isRoundB_iff {r : Round} : isRoundB r = true ↔ ((2 ≤ r.per ∧ r.per ≤ 36) ∧ (1 ≤ r.lo ∧ r.lo ≤ r.hi) ∧ r.hi ≤ 50 ∧ r.hi - r.lo ≤ 4 ∧ (0 ≤ r.card ∧ r.card ≤ 100) ∧ (0 ≤ r.slack ∧ r.slack ≤ 500) ∧ (1 ≤ (r.houses.length : Int) ∧ (r.houses.length : Int) ≤ 4) ∧ (0 ≤ r.all ∧ r.all ≤ 12000) ∧ (0 ≤ r.off ∧ r.off ≤ 100) ∧ ∀ h, h ∈ r.houses → badHouse h = false) := by
  simp only [isRoundB, Bool.and_eq_true, inB_iff, decide_eq_true_eq, Bool.not_eq_true', List.any_eq_false, Bool.not_eq_true]
  constructor
  · rintro ⟨⟨⟨⟨⟨⟨⟨⟨⟨a, b⟩, c⟩, d⟩, e⟩, f⟩, g⟩, h⟩, i⟩, j⟩
    exact ⟨a, b, c, d, e, f, g, h, i, j⟩
  · rintro ⟨a, b, c, d, e, f, g, h, i, j⟩
    exact ⟨⟨⟨⟨⟨⟨⟨⟨⟨a, b⟩, c⟩, d⟩, e⟩, f⟩, g⟩, h⟩, i⟩, j⟩
theorem badHouse_iff {h : House} : badHouse h = false ↔ ((0 ≤ h.out ∧ h.out ≤ 3000) ∧ (0 ≤ h.cards ∧ h.cards ≤ 60) ∧ (0 ≤ h.full ∧ h.full ≤ 60) ∧ (0 ≤ h.loose ∧ h.loose ≤ 36) ∧ (0 ≤ h.miss ∧ h.miss ≤ 3) ∧ (0 ≤ h.weighed ∧ h.weighed ≤ 200000)) := by
  simp only [badHouse, Bool.or_eq_false_iff, Bool.not_eq_false', inB_iff, and_assoc]

/-! ### What a house can have brought -/
def nOf (r : Round) (full loose : Int) : Int := r.per * full + loose
def canB (r : Round) (button : Int) (h : House) (full loose : Int) : Bool :=
  inB full 0 h.cards && inB loose 0 (r.per - 1) && decide (nOf r full loose ≤ h.out) && inB (nOf r full loose * button + full * r.card - h.weighed) (-r.slack) r.slack
def countsB (h : House) (full loose : Int) : Bool := inB (full - h.full) (-h.miss) h.miss && inB (loose - h.loose) (-h.miss) h.miss

/-! ### Pay -/
def payGo (rate : Int) : Int → List Int → List Int × Int
  | kept, [] => ([], kept)
  | kept, n :: l => let r := payGo rate ((kept + n) % 144) l; ((kept + n) / 144 * rate :: r.1, r.2)
def payOk (rate kept : Int) (l : List Int) : Bool := inB rate 0 1000 && inB kept 0 143 && decide (l.length ≤ 12) && !l.any (fun n => !inB n 0 3000)

/-! ### Comparing -/
def cmpI (x y : Int) : Int := if x < y then -1 else if y < x then 1 else 0
def cmpL : List Int → List Int → Int
  | [], [] => 0
  | [], _ :: _ => -1
  | _ :: _, [] => 1
  | x :: l, y :: m => if cmpI x y = 0 then cmpL l m else cmpI x y
def orI : List Int → Int
  | [] => 0
  | x :: l => if x = 0 then orI l else x
end Go.Proofs.YtbeophjdiddomaaGreatDoor

/- The contracts of the layer card's small functions. -/
namespace Go.Proofs.YtbeophjdiddomaaGreatDoor
open Go.RowKit

theorem in_any (x lo hi : Int) (w : World) :
    Calls Tryz.prog 45 #[.int .i64 x, .int .i64 lo, .int .i64 hi] w fun e w' => e = .returned (.bool (inB x lo hi)) ∧ w = w' := by
  go_enter Tryz.func45, Tryz.ntmps45
  go_wp2
  all_goals go_ret
  all_goals simp [inB, *]
  omega

/-- A predicate on integers that a function value answers, whatever has been laid since. -/
def PredI (w : World) (f : Nat) (cap : Array Value) (p : Int → Bool) (xs : List Int) : Prop :=
  ∀ x, x ∈ xs → ∀ w1, Ext w w1 → Calls Tryz.prog f (#[.int .i64 x] ++ cap) w1 fun e w' => e = .returned (.bool (p x)) ∧ Ext w1 w'

theorem any_take_succ {α : Type} (p : α → Bool) {xs : List α} {k : Nat} {x : α} (hx : xs[k]? = some x) : (xs.take (k + 1)).any p = ((xs.take k).any p || p x) := by
  rw [List.take_add_one, hx]; simp
theorem any_of_at {α : Type} (p : α → Bool) {xs : List α} {k : Nat} {x : α} (hx : xs[k]? = some x) (hp : p x = true) : xs.any p = true := by
  simp only [List.any_eq_true]; exact ⟨x, List.mem_of_getElem? hx, hp⟩

def IdxPost (w : World) (b : Bool) (e : Ending) (w' : World) : Prop := (∃ n : Int, e = .returned (.int .i64 n) ∧ decide (0 ≤ n) = b) ∧ Ext w w'

set_option maxHeartbeats 400000 in
theorem indexFuncI (v : Value) (f : Nat) (cap : Array Value) (p : Int → Bool) (xs : List Int) (w : World) (hv : IntsAt w v xs) (hp : PredI w f cap p xs)
    (ef : ∀ args w, (callFunc f args).run Tryz.prog w = .ok (.enter f args) w) :
    Calls Tryz.prog 92 #[v, .func (.func f) #[] cap] w (IdxPost w (xs.any p)) := by
  obtain ⟨a, c, rfl, h1, h2, h3⟩ := hv.open
  go_enter Tryz.func92, Tryz.ntmps92
  go_wp2
  go_loopw [8] (fun i wr => ∃ k : Nat, k ≤ xs.length ∧ i = .int .i64 k ∧ Hid ((xs.take k).any p = false) ∧ Ext w wr) (fun i _ => xs.length - (intOf i).toNat)
  case atStart => exact ⟨0, Nat.zero_le _, rfl, by simp [Hid], Ext.refl _⟩
  case round =>
    obtain ⟨k, hk, rfl, hno, hx⟩ := hrel
    by_cases hlt : k < xs.length
    · obtain ⟨b, o, x, rfl, hxk, hc⟩ := h3 k hlt
      have hc' := hx.cell hc
      have hpk := hp x (List.mem_of_getElem? hxk.out) wr hx
      clear hc h3
      go_wp2_with (refine Calls.mono hpk ?_; rintro e w' ⟨rfl, hx'⟩)
      · go_ret
        exact ⟨⟨_, rfl, by rw [any_of_at p hxk.out (by assumption)]; simp⟩, hx.trans hx'⟩
      · go_roundw
        case rel => exact ⟨k + 1, by omega, by go_num, by unfold Hid; rw [any_take_succ p hxk.out, hno.out]; simpa using ‹p x = false›, hx.trans hx'⟩
        case measure => simp [intOf]; omega
    · go_wp2
      go_ret
      exact ⟨⟨_, rfl, by have := hno.out; rw [List.take_of_length_le (by omega)] at this; rw [this]; simp⟩, hx⟩

theorem containsFuncI (v : Value) (f : Nat) (cap : Array Value) (p : Int → Bool) (xs : List Int) (w : World) (hv : IntsAt w v xs) (hp : PredI w f cap p xs)
    (ef : ∀ args w, (callFunc f args).run Tryz.prog w = .ok (.enter f args) w) :
    Calls Tryz.prog 57 #[v, .func (.func f) #[] cap] w fun e w' => e = .returned (.bool (xs.any p)) ∧ Ext w w' := by
  go_enter Tryz.func57, Tryz.ntmps57
  go_wp2_with (go_at_call 92; refine (indexFuncI v f cap p xs _ hv hp ef).mono ?_; rintro e w' ⟨⟨n, rfl, hn⟩, hx⟩)
  go_ret
  exact ⟨by simp, hx⟩
/-! ### Small ones -/
theorem near_any (a b off : Int) (w : World) (ha : -1000000000000 ≤ a) (ha' : a ≤ 1000000000000) (hb : -1000000000000 ≤ b) (hb' : b ≤ 1000000000000) (ho : 0 ≤ off) (ho' : off ≤ 1000000000000) :
    Calls Tryz.prog 49 #[.int .i64 a, .int .i64 b, .int .i64 off] w fun e w' => e = .returned (.bool (inB (a - b) (-off) off)) ∧ w = w' := by
  go_enter Tryz.func49, Tryz.ntmps49
  go_wp2_with (go_at_call 45; refine (in_any _ _ _ _).mono ?_; rintro e w' ⟨rfl, rfl⟩)
  go_ret
  exact ⟨rfl, rfl⟩

theorem isKept_any (n : Int) (w : World) :
    Calls Tryz.prog 59 #[.int .i64 n] w fun e w' => e = .returned (.bool (inB n 0 143)) ∧ w = w' := by
  go_enter Tryz.func59, Tryz.ntmps59
  go_wp2_with (go_at_call 45; refine (in_any _ _ _ _).mono ?_; rintro e w' ⟨rfl, rfl⟩)
  go_ret
  exact ⟨rfl, rfl⟩

theorem due1_any (n : Int) (w : World) :
    Calls Tryz.prog 58 #[.int .i64 n] w fun e w' => e = .returned (.bool (!inB n 0 143)) ∧ w = w' := by
  go_enter Tryz.func58, Tryz.ntmps58
  go_wp2_with (go_at_call 59; refine (isKept_any _ _).mono ?_; rintro e w' ⟨rfl, rfl⟩)
  go_ret
  exact ⟨rfl, rfl⟩

theorem pay1_any (n : Int) (w : World) :
    Calls Tryz.prog 60 #[.int .i64 n] w fun e w' => e = .returned (.bool (!inB n 0 3000)) ∧ w = w' := by
  go_enter Tryz.func60, Tryz.ntmps60
  go_wp2_with (go_at_call 45; refine (in_any _ _ _ _).mono ?_; rintro e w' ⟨rfl, rfl⟩)
  go_ret
  exact ⟨rfl, rfl⟩

theorem isRoads1_any (n : Int) (w : World) :
    Calls Tryz.prog 93 #[.int .i64 n] w fun e w' => e = .returned (.bool (!inB n 0 1000)) ∧ w = w' := by
  go_enter Tryz.func93, Tryz.ntmps93
  go_wp2_with (go_at_call 45; refine (in_any _ _ _ _).mono ?_; rintro e w' ⟨rfl, rfl⟩)
  go_ret
  exact ⟨rfl, rfl⟩

theorem isRoads21_any (n : Int) (w : World) :
    Calls Tryz.prog 96 #[.int .i64 n] w fun e w' => e = .returned (.bool (!inB n 0 1000)) ∧ w = w' := by
  go_enter Tryz.func96, Tryz.ntmps96
  go_wp2_with (go_at_call 45; refine (in_any _ _ _ _).mono ?_; rintro e w' ⟨rfl, rfl⟩)
  go_ret
  exact ⟨rfl, rfl⟩

theorem isNaN_any (n : Int) (w : World) :
    Calls Tryz.prog 105 #[.int .i64 n] w fun e w' => e = .returned (.bool false) ∧ w = w' := by
  go_enter Tryz.func105, Tryz.ntmps105
  go_wp2
  go_ret
  simp

theorem compare_any (x y : Int) (w : World) :
    Calls Tryz.prog 71 #[.int .i64 x, .int .i64 y] w fun e w' => e = .returned (.int .i64 (cmpI x y)) ∧ w = w' := by
  unfold cmpI
  by_cases h1 : x < y
  · rw [if_pos h1]
    go_enter Tryz.func71, Tryz.ntmps71
    go_wp2_with (go_at_call 105; refine (isNaN_any _ _).mono ?_; rintro e w' ⟨rfl, rfl⟩)
    go_ret
    simp
  · by_cases h2 : y < x
    · rw [if_neg h1, if_pos h2]
      go_enter Tryz.func71, Tryz.ntmps71
      go_wp2_with (go_at_call 105; refine (isNaN_any _ _).mono ?_; rintro e w' ⟨rfl, rfl⟩)
      go_ret
      simp
    · rw [if_neg h1, if_neg h2]
      go_enter Tryz.func71, Tryz.ntmps71
      go_wp2_with (go_at_call 105; refine (isNaN_any _ _).mono ?_; rintro e w' ⟨rfl, rfl⟩)
      go_ret
      simp

theorem sum_take {xs : List Int} {k : Nat} {x : Int} (hx : xs[k]? = some x) : (xs.take (k + 1)).sum = (xs.take k).sum + x := by
  rw [List.take_add_one, hx]; simp

theorem sum_any (v : Value) (xs : List Int) (w : World) (hv : IntsAt w v xs) (hb : ∀ k, 0 ≤ (xs.take k).sum ∧ (xs.take k).sum ≤ 1000000000000) (hb2 : ∀ x, x ∈ xs → 0 ≤ x ∧ x ≤ 1000000000000) :
    Calls Tryz.prog 136 #[v] w fun e w' => e = .returned (.int .i64 xs.sum) ∧ w = w' := by
  obtain ⟨a, c, rfl, h1, h2, h3⟩ := hv.open
  go_enter Tryz.func136, Tryz.ntmps136
  go_wp2
  go_loop [3, 8] (fun s i => ∃ k : Nat, k ≤ xs.length ∧ i = .int .i64 k ∧ s = .int .i64 (xs.take k).sum) (fun _ i => xs.length - (intOf i).toNat)
  case atStart => exact ⟨0, Nat.zero_le _, rfl, by simp⟩
  case round =>
    obtain ⟨k, hk, rfl, rfl⟩ := hrel
    by_cases hlt : k < xs.length
    · obtain ⟨b, o, x, rfl, hxk, hc⟩ := h3 k hlt
      clear h3
      have hs := Lib.hid (sum_take hxk.out)
      have hbk := hb k
      have hbx := hb2 x (List.mem_of_getElem? hxk.out)
      clear hb hb2
      go_wp2
      go_round
      case rel => exact ⟨k + 1, by omega, by go_num, by rw [hs.out]⟩
      case measure => simp [intOf]; omega
    · go_wp2
      go_ret
      exact ⟨by first | rfl | (rw [List.take_of_length_le (by omega)]; rfl), rfl⟩

theorem orI_take {xs : List Int} {k : Nat} (h : ∀ x, x ∈ xs.take k → x = 0) : orI xs = orI (xs.drop k) := by
  induction k generalizing xs with
  | zero => rfl
  | succ k ih =>
    cases xs with
    | nil => rfl
    | cons x l =>
      have h0 : x = 0 := h x (by simp)
      simp only [orI, h0, if_true, List.drop_succ_cons]
      exact ih (fun y hy => h y (by simp [hy]))
theorem orI_at {xs : List Int} {k : Nat} {x : Int} (hx : xs[k]? = some x) (h : ∀ y, y ∈ xs.take k → y = 0) (hn : x ≠ 0) : orI xs = x := by
  rw [orI_take h]
  obtain ⟨hk, rfl⟩ := List.getElem?_eq_some_iff.1 hx
  rw [List.drop_eq_getElem_cons hk]
  simp [orI, hn]

theorem or_any (v : Value) (xs : List Int) (w : World) (hv : IntsAt w v xs) :
    Calls Tryz.prog 70 #[v] w fun e w' => e = .returned (.int .i64 (orI xs)) ∧ w = w' := by
  obtain ⟨a, c, rfl, h1, h2, h3⟩ := hv.open
  go_enter Tryz.func70, Tryz.ntmps70
  go_wp2
  go_loop [8] (fun i => ∃ k : Nat, k ≤ xs.length ∧ i = .int .i64 k ∧ Hid (∀ y, y ∈ xs.take k → y = 0)) (fun i => xs.length - (intOf i).toNat)
  case atStart => exact ⟨0, Nat.zero_le _, rfl, by simp [Hid]⟩
  case round =>
    obtain ⟨k, hk, rfl, hz⟩ := hrel
    by_cases hlt : k < xs.length
    · obtain ⟨b, o, x, rfl, hxk, hc⟩ := h3 k hlt
      clear h3
      by_cases h0 : x = 0
      · have hb : (x != 0) = false := by simp [h0]
        have h0' := Lib.hid h0
        clear h0
        go_wp2
        go_round
        case rel => exact ⟨k + 1, by omega, by go_num, by
          unfold Hid; intro y hy
          rw [List.take_add_one, hxk.out] at hy
          rcases List.mem_append.1 hy with hy | hy
          · exact hz.out y hy
          · simp at hy; rw [hy]; exact h0'.out⟩
        case measure => simp [intOf]; omega
      · have hb : (x != 0) = true := by simp [h0]
        go_wp2
        go_ret
        exact ⟨by rw [orI_at hxk.out hz.out h0]; rfl, rfl⟩
    · go_wp2
      go_ret
      exact ⟨by have h := orI_take hz.out; rw [List.drop_of_length_le (by omega)] at h; rw [h]; rfl, rfl⟩
end Go.Proofs.YtbeophjdiddomaaGreatDoor

/- More contracts of the layer card's small functions. -/
namespace Go.Proofs.YtbeophjdiddomaaGreatDoor
open Go.RowKit

/-! ### What the program's table says of types -/
theorem info_int : (Tryz.prog.info? 3).map (fun i => (i.zero, i.size, i.bytes)) = some (some (.int .i64 0), 1, 8) := by kernel_rfl
theorem E_ints : Elem Tryz.prog 33 3 1 8 (.int .i64 0) := by
  obtain ⟨i, h1, h2, h3, h4⟩ := info_parts info_int
  exact ⟨Tryz.underlying33, ⟨i, h1, h2, h3, h4⟩, rfl, by decide⟩

theorem ints_one (xs : List Int) : ∀ u ∈ xs.map (Value.int .i64), u.oneCell' = true := by
  intro u hu
  obtain ⟨x, _, rfl⟩ := List.mem_map.1 hu
  rfl

/-- What the call owns reads as integers. -/
theorem IntsAt.of_owns {w : World} {base e : Nat} {v : Value} {xs : List Int} (h : w.ownsRow base e 1 v xs.length (xs.map (.int .i64))) : IntsAt w v xs := RowAt.of_owns h

/-! ### Pay -/
theorem payGo_take (rate : Int) : ∀ (kept : Int) (l : List Int) (n : Int), payGo rate kept (l ++ [n]) = ((payGo rate kept l).1 ++ [((payGo rate kept l).2 + n) / 144 * rate], ((payGo rate kept l).2 + n) % 144)
  | kept, [], n => rfl
  | kept, m :: l, n => by simp [payGo, payGo_take rate _ l n]
theorem payGo_length (rate : Int) : ∀ (kept : Int) (l : List Int), (payGo rate kept l).1.length = l.length
  | _, [] => rfl
  | _, _ :: l => by simp [payGo, payGo_length rate _ l]
theorem payGo_kept (rate : Int) : ∀ (kept : Int) (l : List Int), 0 ≤ kept → kept ≤ 143 → 0 ≤ (payGo rate kept l).2 ∧ (payGo rate kept l).2 ≤ 143
  | _, [], h, h' => ⟨h, h'⟩
  | kept, n :: l, _, _ => payGo_kept rate _ l (by omega) (by omega)

def PayPost (w : World) (rate kept : Int) (l : List Int) (e : Ending) (w' : World) : Prop :=
  ∃ v, e = .returned (.tuple #[v, .int .i64 (if payOk rate kept l then (payGo rate kept l).2 else 0), .int .i64 (if payOk rate kept l then 0 else 2)]) ∧ IntsAt w' v (if payOk rate kept l then (payGo rate kept l).1 else []) ∧ Ext w w'

theorem enters_pay1 : ∀ args w, (callFunc 60 args).run Tryz.prog w = .ok (.enter 60 args) w := enters_of Tryz.func60 (by kernel_rfl) rfl
theorem pred_pay1 (w : World) (l : List Int) : PredI w 60 #[] (fun n => !inB n 0 3000) l := fun x _ w1 _ => (pay1_any x w1).mono (by rintro e w' ⟨rfl, rfl⟩; exact ⟨rfl, Ext.refl _⟩)
theorem contains_pay1 (v : Value) (l : List Int) (w : World) (hv : IntsAt w v l) :
    Calls Tryz.prog 57 #[v, .func (.func 60) #[] #[]] w fun e w' => e = .returned (.bool (l.any (fun n => !inB n 0 3000))) ∧ Ext w w' :=
  containsFuncI v _ _ _ l w hv (pred_pay1 w l) enters_pay1

set_option maxRecDepth 100000 in
set_option maxHeartbeats 1000000 in
theorem pay_any (rate kept : Int) (v : Value) (l : List Int) (w : World) (hv : IntsAt w v l) :
    Calls Tryz.prog 30 #[.int .i64 rate, .int .i64 kept, v] w (PayPost w rate kept l) := by
  by_cases hok : payOk rate kept l = true
  · have hok' := hok
    simp only [payOk, Bool.and_eq_true, decide_eq_true_eq, Bool.not_eq_true'] at hok'
    obtain ⟨⟨⟨q1, q2⟩, q3⟩, q4⟩ := hok'
    obtain ⟨q5, q6⟩ := inB_iff.1 q1
    obtain ⟨q7, q8⟩ := inB_iff.1 q2
    have hb : ∀ n, n ∈ l → 0 ≤ n ∧ n ≤ 3000 := by
      intro n hn
      have h := q4
      simp only [List.any_eq_false] at h
      have := h n hn
      simpa [inB] using this
    obtain ⟨a, c, rfl, h1, h2, h3⟩ := hv.open
    have HOK := Lib.hid hok
    clear hok
    have q3' : decide (12 < (l.length : Int)) = false := by simp; omega
    go_enter Tryz.func30, Tryz.ntmps30
    go_wp2_with (first | (go_at_call 45; refine (in_any _ _ _ _).mono ?_; rintro e w' ⟨rfl, rfl⟩) | (go_at_call 59; refine (isKept_any _ _).mono ?_; rintro e w' ⟨rfl, rfl⟩) | (go_at_call 57; refine (contains_pay1 _ l _ hv).mono ?_; rintro e w1 ⟨rfl, hx1⟩))
    clear q1 q2 q4 q3'
    go_loopw [1, 9, 31] (fun kp out i wr => ∃ (k : Nat), k ≤ l.length ∧ i = .int .i64 k ∧ kp = .int .i64 (payGo rate kept (l.take k)).2 ∧ wr.ownsRow w.heap.size 3 1 out k ((payGo rate kept (l.take k)).1.map (.int .i64)) ∧ Ext w wr) (fun _ _ i _ => l.length - (intOf i).toNat)
    case atStart => exact ⟨0, Nat.zero_le _, rfl, by simp [payGo], World.ownsRow_nil _ _ _ _, hx1⟩
    case round =>
      obtain ⟨k, hk, rfl, rfl, hown, hx⟩ := hrel
      by_cases hlt : k < l.length
      · obtain ⟨b, o, n, rfl, hxk, hc⟩ := h3 k hlt
        have hc' := hx.cell hc
        have hbn := hb n (List.mem_of_getElem? hxk.out)
        have hkp := payGo_kept rate kept (l.take k) q7 q8
        have hlen := payGo_length rate kept (l.take k)
        have HS : Hid (payGo rate kept (l.take (k + 1)) = ((payGo rate kept (l.take k)).1 ++ [((payGo rate kept (l.take k)).2 + n) / 144 * rate], ((payGo rate kept (l.take k)).2 + n) % 144)) := by
          unfold Hid; rw [List.take_add_one, hxk.out]; exact payGo_take rate kept (l.take k) n
        clear hc h3 hb hv
        obtain ⟨K, hK⟩ : ∃ K, (payGo rate kept (l.take k)).2 = K := ⟨_, rfl⟩
        obtain ⟨L, hL⟩ : ∃ L, (payGo rate kept (l.take k)).1 = L := ⟨_, rfl⟩
        rw [hK] at hkp HS ⊢
        rw [hL] at hown HS hlen
        clear hK hL
        obtain ⟨hkp1, hkp2⟩ := hkp
        have hm : (K + n) / 144 ≤ 22 := by omega
        have hm0 : 0 ≤ (K + n) / 144 := by omega
        have hr1 : 0 ≤ (K + n) / 144 * rate := Int.mul_nonneg hm0 q5
        have hr2 : (K + n) / 144 * rate ≤ 22000 := by
          have := Int.mul_le_mul hm q6 q5 (by omega : (0:Int) ≤ 22)
          omega
        go_wp2_with (at_builtin; go_loud (refine wpList_push E_ints rfl _ _ rfl w.heap.size rfl hown rfl rfl (by simp [Value.oneCell']) ?_ ?c1 ?c2 ?c3); intro g cap w2 hown' hext _)
        case c1 => unfold maxLen; omega
        case c2 => omega
        case c3 => exact hx.size
        go_roundw
        case rel => exact ⟨k + 1, by omega, by go_num, by rw [HS.out], by rw [HS.out]; simpa using hown', hext _ hx (Nat.le_refl _)⟩
        case measure => simp [intOf]; omega
      · have hkl : k = l.length := by omega
        have hfin : PayPost w rate kept l (.returned (.tuple #[u9, .int .i64 (payGo rate kept (l.take k)).2, .int .i64 0])) wr := by
          have ht : l.take k = l := List.take_of_length_le (by omega)
          rw [ht, hkl] at hown
          rw [ht]
          refine ⟨u9, by rw [HOK.out]; rfl, ?_, hx⟩
          rw [HOK.out]
          exact IntsAt.of_owns (by simpa [payGo_length] using hown)
        have HF := Lib.hid hfin
        clear hfin hkl
        go_wp2
        go_ret3
        exact HF.out
  · have hok' : payOk rate kept l = false := by simpa using hok
    have hfin : ∀ wr, Ext w wr → PayPost w rate kept l (.returned (.tuple #[.slice none 0 0, .int .i64 0, .int .i64 2])) wr := fun wr hx => ⟨_, by rw [hok']; rfl, by rw [hok']; exact IntsAt.nil _, hx⟩
    have HF := Lib.hid hfin
    have HOK := Lib.hid hok'
    clear hfin hok hok'
    obtain ⟨a, c, rfl, h1, h2, h3⟩ := hv.open
    clear h3
    go_enter Tryz.func30, Tryz.ntmps30
    go_wp2_with (first | (go_at_call 45; refine (in_any _ _ _ _).mono ?_; rintro e w' ⟨rfl, rfl⟩) | (go_at_call 59; refine (isKept_any _ _).mono ?_; rintro e w' ⟨rfl, rfl⟩) | (go_at_call 57; refine (contains_pay1 _ l _ hv).mono ?_; rintro e w1 ⟨rfl, hx1⟩))
    all_goals first | (go_ret3; exact HF.out _ (by first | exact Ext.refl _ | assumption)) | skip
    exfalso
    have h := HOK.out
    have g : ((l.length : Int) ≤ 12 ∧ (l.any fun n => !inB n 0 3000) = false) := by assumption
    have g1 : inB rate 0 1000 = true := by assumption
    have g2 : inB kept 0 143 = true := by assumption
    rw [payOk, g1, g2, g.2] at h
    simp at h
    omega

/-! ### slices.Compare, Contains, Clone at integers -/
theorem cmpL_take {xs ys : List Int} : ∀ {k : Nat}, xs.take k = ys.take k → k ≤ xs.length → k ≤ ys.length → cmpL xs ys = cmpL (xs.drop k) (ys.drop k) := by
  intro k
  induction k generalizing xs ys with
  | zero => intros; rfl
  | succ k ih =>
    intro h h1 h2
    cases xs with
    | nil => simp at h1
    | cons x xs =>
      cases ys with
      | nil => simp at h2
      | cons y ys =>
        simp only [List.take_succ_cons, List.cons.injEq] at h
        obtain ⟨rfl, h⟩ := h
        simp only [cmpL, cmpI, Int.lt_irrefl, if_false, if_true, List.drop_succ_cons]
        exact ih h (by simpa using h1) (by simpa using h2)
theorem cmpL_at {xs ys : List Int} {k : Nat} {x y : Int} (h : xs.take k = ys.take k) (hx : xs[k]? = some x) (hy : ys[k]? = some y) (hn : cmpI x y ≠ 0) : cmpL xs ys = cmpI x y := by
  obtain ⟨h1, rfl⟩ := List.getElem?_eq_some_iff.1 hx
  obtain ⟨h2, rfl⟩ := List.getElem?_eq_some_iff.1 hy
  rw [cmpL_take h (by omega) (by omega), List.drop_eq_getElem_cons h1, List.drop_eq_getElem_cons h2]
  simp [cmpL, hn]
theorem cmpI_zero {x y : Int} : cmpI x y = 0 ↔ x = y := by
  unfold cmpI; split <;> (try split) <;> simp <;> omega

set_option maxHeartbeats 1000000 in
theorem compareL_any (v v' : Value) (xs ys : List Int) (w : World) (hv : IntsAt w v xs) (hv' : IntsAt w v' ys) :
    Calls Tryz.prog 74 #[v, v'] w fun e w' => e = .returned (.int .i64 (cmpL xs ys)) ∧ w = w' := by
  obtain ⟨a, c, rfl, h1, h2, h3⟩ := hv.open
  obtain ⟨a', c', rfl, h1', h2', h3'⟩ := hv'.open
  go_enter Tryz.func74, Tryz.ntmps74
  go_wp2
  go_loop [11] (fun i => ∃ k : Nat, k ≤ xs.length ∧ k ≤ ys.length ∧ i = .int .i64 k ∧ Hid (xs.take k = ys.take k)) (fun i => xs.length - (intOf i).toNat)
  case atStart => exact ⟨0, Nat.zero_le _, Nat.zero_le _, rfl, by simp [Hid]⟩
  case round =>
    obtain ⟨k, hk, hk', rfl, heq⟩ := hrel
    by_cases hlt : k < xs.length
    · obtain ⟨b, o, x, rfl, hxk, hc⟩ := h3 k hlt
      by_cases hlt' : k < ys.length
      · obtain ⟨b', o', y, rfl, hyk, hc'⟩ := h3' k hlt'
        clear h3 h3' hv hv'
        by_cases hxy : x = y
        · subst hxy
          have hz : cmpI x x = 0 := cmpI_zero.2 rfl
          go_wp2_with (go_at_call 71; refine (compare_any _ _ _).mono ?_; rintro e w' ⟨rfl, rfl⟩)
          go_round
          case rel => exact ⟨k + 1, by omega, by omega, by go_num, by unfold Hid; rw [List.take_add_one, List.take_add_one, hxk.out, hyk.out, heq.out]⟩
          case measure => simp [intOf]; omega
        · have hz : (cmpI x y != 0) = true := by simpa [cmpI_zero] using hxy
          have hfin := Lib.hid (cmpL_at heq.out hxk.out hyk.out (by simpa [cmpI_zero] using hxy))
          clear hxy
          go_wp2_with (go_at_call 71; refine (compare_any _ _ _).mono ?_; rintro e w' ⟨rfl, rfl⟩)
          go_ret
          exact ⟨by rw [hfin.out]; rfl, rfl⟩
      · have hfin : Hid (cmpL xs ys = 1) := by
          unfold Hid
          rw [cmpL_take heq.out hk hk', List.drop_eq_getElem_cons hlt, List.drop_of_length_le (l := ys) (by omega)]; rfl
        clear h3 h3' hv hv'
        go_wp2
        go_ret
        exact ⟨by rw [hfin.out]; rfl, rfl⟩
    · by_cases hlt' : k < ys.length
      · have hfin : Hid (cmpL xs ys = -1) := by
          unfold Hid
          rw [cmpL_take heq.out hk hk', List.drop_of_length_le (l := xs) (by omega), List.drop_eq_getElem_cons hlt']; rfl
        have hb : xs.length < ys.length := by omega
        clear h3 h3' hv hv'
        go_wp2
        go_ret
        exact ⟨by rw [hfin.out]; rfl, rfl⟩
      · have hfin : Hid (cmpL xs ys = 0) := by
          unfold Hid
          rw [cmpL_take heq.out hk hk', List.drop_of_length_le (l := xs) (by omega), List.drop_of_length_le (l := ys) (by omega)]; rfl
        have hb : ¬ xs.length < ys.length := by omega
        clear h3 h3' hv hv'
        go_wp2
        go_ret
        exact ⟨by rw [hfin.out]; rfl, rfl⟩

def IdxIn (b : Bool) (w : World) (e : Ending) (w' : World) : Prop := ∃ n : Int, e = .returned (.int .i64 n) ∧ decide (0 ≤ n) = b ∧ w = w'

theorem index_any (v : Value) (xs : List Int) (y : Int) (w : World) (hv : IntsAt w v xs) :
    Calls Tryz.prog 137 #[v, .int .i64 y] w (IdxIn (decide (y ∈ xs)) w) := by
  obtain ⟨a, c, rfl, h1, h2, h3⟩ := hv.open
  go_enter Tryz.func137, Tryz.ntmps137
  go_wp2
  go_loop [8] (fun i => ∃ k : Nat, k ≤ xs.length ∧ i = .int .i64 k ∧ Hid (y ∉ xs.take k)) (fun i => xs.length - (intOf i).toNat)
  case atStart => exact ⟨0, Nat.zero_le _, rfl, by simp [Hid]⟩
  case round =>
    obtain ⟨k, hk, rfl, hno⟩ := hrel
    by_cases hlt : k < xs.length
    · obtain ⟨b, o, x, rfl, hxk, hc⟩ := h3 k hlt
      clear h3 hv
      by_cases hxy : y = x
      · subst hxy
        have hfin : Hid (y ∈ xs) := List.mem_of_getElem? hxk.out
        go_wp2
        go_ret
        exact ⟨_, rfl, by have h := hfin.out; simp [h], rfl⟩
      · have hb : (y == x) = false := by simpa using hxy
        have hxy' := Lib.hid hxy
        clear hxy
        go_wp2
        go_round
        case rel => exact ⟨k + 1, by omega, by go_num, by
          unfold Hid; rw [List.take_add_one, hxk.out]; simp only [Option.toList_some, List.mem_append, List.mem_singleton, not_or]; exact ⟨hno.out, hxy'.out⟩⟩
        case measure => simp [intOf]; omega
    · have hfin : Hid (¬ y ∈ xs) := by
        have h := hno.out; rw [List.take_of_length_le (by omega)] at h; exact h
      go_wp2
      go_ret
      exact ⟨_, rfl, by have h := hfin.out; simp [h], rfl⟩

theorem contains_any (v : Value) (xs : List Int) (y : Int) (w : World) (hv : IntsAt w v xs) :
    Calls Tryz.prog 123 #[v, .int .i64 y] w fun e w' => e = .returned (.bool (decide (y ∈ xs))) ∧ w = w' := by
  go_enter Tryz.func123, Tryz.ntmps123
  go_wp2_with (go_at_call 137; refine (index_any v xs y _ hv).mono ?_; rintro e w' ⟨n, rfl, hn, rfl⟩)
  go_ret
  exact ⟨by simp, rfl⟩

/-! ### Clone at integers -/
def ClonePost (w : World) (xs : List Int) (e : Ending) (w' : World) : Prop := ∃ v, e = .returned v ∧ w'.ownsRow w.heap.size 3 1 v xs.length (xs.map (.int .i64)) ∧ Ext w w'

set_option maxRecDepth 100000 in
theorem clone_any (v : Value) (xs : List Int) (w : World) (hv : IntsAt w v xs) (hl : xs.length ≤ 1000000) :
    Calls Tryz.prog 78 #[v] w (ClonePost w xs) := by
  have hv' := hv.ext ((Ext.refl w).alloc (.cells #[] 3))
  obtain ⟨a, c, rfl, h1, h2, h0, _⟩ := hv
  have heq := fun w1 => Lib.run_eql_slice_nil (P := Tryz.prog) w1 33 3 a xs.length c 0 0 Tryz.underlying33
  cases a with
  | none =>
    have hc := h0 rfl
    have hx : xs = [] := by
      cases xs with
      | nil => rfl
      | cons x l => simp at h1; omega
    subst hx
    subst hc
    have hfin : ClonePost w [] (.returned (.slice none 0 0)) w := ⟨_, rfl, World.ownsRow_nil _ _ _ _, Ext.refl _⟩
    have HF := Lib.hid hfin
    clear hfin hv' heq
    have heq := fun w1 => Lib.run_eql_slice_nil (P := Tryz.prog) w1 33 3 none 0 0 0 0 Tryz.underlying33
    go_enter Tryz.func78, Tryz.ntmps78
    go_wp2
    go_ret
    exact HF.out
  | some ad =>
    have hown := World.ownsRow_lit (base := w.heap.size) (e := 3) (size := 1) w #[] 0 (Nat.le_refl _) (Nat.zero_le _) rfl
    have hlen : ((xs.map (Value.int .i64)).length) = xs.length * 1 := by simp
    have HV := Lib.hid hv'
    have HO := Lib.hid hown
    clear hv' hown
    go_enter Tryz.func78, Tryz.ntmps78
    go_wp2_with (at_builtin; refine wpList_append_row E_ints rfl _ _ rfl w.heap.size rfl HO.out rfl HV.out hlen (ints_one xs) ?_ ?c1 ?c2 ?c3; intro v' w2 hown' hgrow _)
    case c1 => unfold maxLen; omega
    case c2 => omega
    try (case c3 => simp)
    go_ret
    exact ⟨_, rfl, by simpa using hown', Ext.grown ((Ext.refl w).alloc _) hgrow (fun k hk => by cases hk; exact Nat.le_refl _)⟩
end Go.Proofs.YtbeophjdiddomaaGreatDoor
