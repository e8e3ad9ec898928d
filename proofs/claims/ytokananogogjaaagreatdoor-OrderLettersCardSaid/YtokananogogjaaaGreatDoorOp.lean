/- Rows that are owned; pages in memory. -/
import Derived.Test.YtokananogogjaaaGreatDoorOo
import Derived.Laws.OwnMore
import Derived.Maps.AppendAt
import Derived.Maps.OwnIn
import Derived.OwnWalk
import Derived.Lib.SliceRun
namespace Go.Proofs.YtokananogogjaaaGreatDoor
open Go.RowKit
theorem Touch.frozen {M : Nat → Prop} {A B : World} (k : Touch M A B) {a : Addr} {v : Value} (h : A.cell? a = some v) (hn : ¬ M a.block) : B.frozen? a = A.frozen? a := by
 obtain ⟨o, ho, _⟩ := cells_of_cell h
 exact World.frozen?_of_block (w := A) ((k.keep _ _ ho hn).trans ho.symm)
theorem owns_ext {w w' : World} {base : Nat} {e : TypeId} {size : Nat} {v : Value} {n : Nat} {xs : List Value} (h : w.ownsRow base e size v n xs) (k : Ext w w') : w'.ownsRow base e size v n xs := by
 obtain ⟨h1, ⟨rfl, rfl⟩ | ⟨g, cap, cur, hv, hg1, hh, r⟩⟩ := h
 ·exact ⟨h1, .inl ⟨rfl, rfl⟩⟩
 ·exact ⟨h1, .inr ⟨g, cap, cur, hv, hg1, (k.block (Array.getElem?_eq_some_iff.1 hh).1).trans hh, r⟩⟩
theorem owns_touch {M : Nat → Prop} {w w' : World} {base : Nat} {e : TypeId} {size : Nat} {v : Value} {n : Nat} {xs : List Value} (h : w.ownsRow base e size v n xs) (k : Touch M w w') (hn : ∀ g, v.ownBlock = some g → ¬ M g) : w'.ownsRow base e size v n xs := by
 obtain ⟨h1, h2⟩ := h
 refine ⟨h1, ?_⟩
 rcases h2 with h2 | ⟨g, cap, cur, rfl, hg, hh, rest⟩
 ·exact .inl h2
 ·exact .inr ⟨g, cap, cur, rfl, hg, k.keep g _ hh (hn g rfl), rest⟩
theorem owns_head {W : World} {base : Nat} {e : TypeId} {size : Nat} {v : Value} {k : Nat} {xs : List Value} (h : W.ownsRow base e size v (k + 1) xs) : ∃ g cap, v = .slice (some ⟨g, 0, none⟩) (k + 1) cap ∧ v.ownBlock = some g ∧ g < W.heap.size := by
 obtain ⟨g, cap, rfl⟩ := owns_succ h
 exact ⟨g, cap, rfl, rfl, (World.ownsRow.lt h g rfl).2⟩
theorem owns_cap {W : World} {base : Nat} {e : TypeId} {size g n cap : Nat} {xs : List Value} (h : W.ownsRow base e size (.slice (some ⟨g, 0, none⟩) (n + 1) cap) (n + 1) xs) : n ≤ cap ∧ (n : Int) ≤ (cap : Int) ∧ cap ≤ 9223372036854775807 := by
 obtain ⟨_, _, hv, h1, h2, _⟩ := RowAt.of_owns h
 cases hv
 exact ⟨by omega, by omega, h2⟩
theorem wpList_push_at {P : Program} {w : World} {t e size bytes : Nat} {z : Value} (E : Elem P t e size bytes z) {ops : Array Oper} {rest : List Oper} {o : Oper} {a : Act} {Q : Exit → Act → World → Prop} (hg : o.guard = none) (s x : Operand)
  (hop : o.op = Op.call { callee := Callee.builtin Builtin.append, args := #[s, x], argTypes := #[t, t] }) (base : Nat) {v : Value} {k : Nat} {xs : List Value} (hs : a.eval s = v) (hown : w.ownsRow base e size v k xs)
  {cs : Array Value} {e' : TypeId} {m : Nat} (hx : a.eval x = .slice (some ⟨m, 0, none⟩) 1 1) (hm : m = w.heap.size) (hl : cs.size = size) (h1 : ∀ u ∈ cs.toList, u.oneCell' = true)
  (hK : ∀ g cap w', w'.ownsRow base e size (.slice (some ⟨g, 0, none⟩) (k + 1) cap) (k + 1) (xs ++ cs.toList) → (∀ a0, Ext a0 w → a0.heap.size ≤ base → Ext a0 w') → (w.alloc (.cells cs e')).grownBy w' v.ownBlock → (v.ownBlock = some g ∨ g = w.heap.size + 1) → wpList P ops Q rest (a.put o.dst (.slice (some ⟨g, 0, none⟩) (k + 1) cap)) w') (b1 : k + 1 ≤ maxLen) (b2 : (k + 1) * bytes ≤ 140737488355328) (b3 : base ≤ w.heap.size) :
  wpList P ops Q (o :: rest) a (w.alloc (.cells cs e')) := by
 subst hm
 obtain ⟨i, hi, hz, hsz, hb⟩ := E.info
 refine wpList_append_own_at _ hg s x t hop base e i z size bytes E.slice hi hz hsz hb E.zero E.pos v k xs hs (hown.alloc _) ⟨w.heap.size, 0, none⟩ 1 1 cs.toList hx (by simp [hl]) ?_ h1 b1 b2 (by simp; omega) ?_
 ·intro j u hj
  obtain ⟨a1, c, hv, _, _, _, h3⟩ := RowAt.new1 w cs e'
  cases hv
  obtain ⟨b, o1, ha, hc⟩ := h3 j u hj
  cases ha
  rcases Nat.eq_zero_or_pos j with rfl | h0
  ·simpa [Addr.add] using hc
  ·simpa [Addr.add, Nat.ne_of_gt h0] using hc
 ·intro v' w' ho hgr _ hloc
  obtain ⟨g, cap, rfl⟩ := owns_succ ho
  refine hK g cap w' ho (fun a0 ha hb => (ha.alloc _).grown hgr (fun k hk => by have := owns_block hown k hk; omega)) hgr ?_
  rcases hloc with h | h
  ·exact .inl (h ▸ rfl)
  ·right; have : some g = some (w.alloc (.cells cs e')).heap.size := h
   simpa using this
theorem wpListIn_push_at {F : Fence} {n : Nat} {P : Program} {w : World} {t e size bytes : Nat} {z : Value} (E : Elem P t e size bytes z) {ops : Array Oper} {rest : List Oper} {o : Oper} {a : Act} {Q : Exit → Act → World → Prop} (hg : o.guard = none) (s x : Operand)
  (hop : o.op = Op.call { callee := Callee.builtin Builtin.append, args := #[s, x], argTypes := #[t, t] }) (base : Nat) {v : Value} {k : Nat} {xs : List Value} (hs : a.eval s = v) (hown : w.ownsRow base e size v k xs)
  {cs : Array Value} {e' : TypeId} {m : Nat} (hx : a.eval x = .slice (some ⟨m, 0, none⟩) 1 1) (hm : m = w.heap.size) (hl : cs.size = size) (h1 : ∀ u ∈ cs.toList, u.oneCell' = true)
  (hK : ∀ g cap w', w'.ownsRow base e size (.slice (some ⟨g, 0, none⟩) (k + 1) cap) (k + 1) (xs ++ cs.toList) → (∀ a0, Ext a0 w → a0.heap.size ≤ base → Ext a0 w') → (w.alloc (.cells cs e')).grownBy w' v.ownBlock → (v.ownBlock = some g ∨ g = w.heap.size + 1) → wpListIn F n P ops Q rest (a.put o.dst (.slice (some ⟨g, 0, none⟩) (k + 1) cap)) w') (b1 : k + 1 ≤ maxLen) (b2 : (k + 1) * bytes ≤ 140737488355328) (b3 : base ≤ w.heap.size) :
  wpListIn F n P ops Q (o :: rest) a (w.alloc (.cells cs e')) := by
 subst hm
 obtain ⟨i, hi, hz, hsz, hb⟩ := E.info
 refine wpListIn_append_own_at _ hg s x t hop base e i z size bytes E.slice hi hz hsz hb E.zero E.pos v k xs hs (hown.alloc _) ⟨w.heap.size, 0, none⟩ 1 1 cs.toList hx (by simp [hl]) ?_ h1 b1 b2 (by simp; omega) ?_
 ·intro j u hj
  obtain ⟨a1, c, hv, _, _, _, h3⟩ := RowAt.new1 w cs e'
  cases hv
  obtain ⟨b, o1, ha, hc⟩ := h3 j u hj
  cases ha
  rcases Nat.eq_zero_or_pos j with rfl | h0
  ·simpa [Addr.add] using hc
  ·simpa [Addr.add, Nat.ne_of_gt h0] using hc
 ·intro v' w' ho hgr _ hloc
  obtain ⟨g, cap, rfl⟩ := owns_succ ho
  refine hK g cap w' ho (fun a0 ha hb => (ha.alloc _).grown hgr (fun k hk => by have := owns_block hown k hk; omega)) hgr ?_
  rcases hloc with h | h
  ·exact .inl (h ▸ rfl)
  ·right; have : some g = some (w.alloc (.cells cs e')).heap.size := h
   simpa using this
theorem step_push_n {P : Program} {w : World} {t e size bytes : Nat} {z : Value} (E : Elem P t e size bytes z) {ops : Array Oper} {o : Oper} {a : Act} {K : Act → World → Prop} {Q : Exit → Act → World → Prop} {E' : Prop} (hw : Region.wanted o (yielded ops a.tmps) = true) (s x : Operand)
  (hop : o.op = Op.call { callee := Callee.builtin Builtin.append, args := #[s, x], argTypes := #[t, t] }) (base : Nat) {v : Value} {k q : Nat} {xs : List Value} (hs : a.eval s = v) (hown : w.ownsRow base e size v k xs)
  {cs : Array Value} {e' : TypeId} {m : Nat} (hx : a.eval x = .slice (some ⟨m, 0, none⟩) (q + 1) (q + 1)) (hm : m = w.heap.size) (hl : cs.size = (q + 1) * size) (hq : q + 1 ≤ maxLen) (h1 : ∀ u ∈ cs.toList, u.oneCell' = true)
  (hK : ∀ g cap w', w'.ownsRow base e size (.slice (some ⟨g, 0, none⟩) (k + q + 1) cap) (k + q + 1) (xs ++ cs.toList) → (w.alloc (.cells cs e')).grownBy w' v.ownBlock → (v.ownBlock = some g ∨ g = w.heap.size + 1) → K (a.put o.dst (.slice (some ⟨g, 0, none⟩) (k + q + 1) cap)) w') (b1 : k + q + 1 ≤ maxLen) (b2 : (k + q + 1) * bytes ≤ 140737488355328) (b3 : base ≤ w.heap.size) :
  if Region.wanted o (yielded ops a.tmps) = true then Oper.wp P o a (w.alloc (.cells cs e')) K Q else E' := by
 rw [if_pos hw]
 subst hm
 obtain ⟨i, hi, hz, hsz, hb⟩ := E.info
 obtain ⟨v', w', hrun, ho, hgr, _, hloc⟩ := run_append_own_at (P := P) (w.alloc (.cells cs e')) base t o.type e i z size bytes E.slice hi hz hsz hb E.zero E.pos v k xs (hown.alloc _) ⟨w.heap.size, 0, none⟩ (q + 1) (q + 1) cs.toList (by simp [hl]) (by
  intro j u hj
  obtain ⟨a1, c, hv, _, _, _, h3⟩ := RowAt.new w cs e' (q + 1) (q + 1) (Nat.le_refl _) hq
  cases hv
  obtain ⟨b, o1, ha, hc⟩ := h3 j u hj
  cases ha
  rcases Nat.eq_zero_or_pos j with rfl | h0
  ·simpa [Addr.add] using hc
  ·simpa [Addr.add, Nat.ne_of_gt h0] using hc) h1 (by omega) (by rw [← Nat.add_assoc]; exact b2) (by simp; omega)
 rw [← Nat.add_assoc] at ho
 obtain ⟨g, cap, rfl⟩ := owns_succ ho
 unfold Oper.wp
 simp [execOp, hop, resolve, invoke, builtin, hs, hx, hrun, Result.andThen]
 refine hK g cap w' ho hgr ?_
 rcases hloc with h | h
 ·exact .inl (h ▸ rfl)
 ·right; have : some g = some (w.alloc (.cells cs e')).heap.size := h
  simpa using this
theorem owns_quiet {w w' : World} {base : Nat} {e : TypeId} {v : Value} {k m n : Nat} {xs : List Value} (h : w.ownsRow base e k v m xs) (q : Quiet n w w') (hx : ∀ u, u ∈ xs → NB u) (hk : k = 2 ∨ v = .slice none 0 0 ∨ 0 < m ∧ 0 < k) : w'.ownsRow base e k v m xs := by
 obtain ⟨h1, h2 | ⟨g, cap, cur, rfl, hg, hh, hn, hc, hs, ht⟩⟩ := h
 ·exact ⟨h1, .inl h2⟩
 ·refine ⟨h1, .inr ⟨g, cap, cur, rfl, hg, q.keep _ _ hh (.inr ?_), hn, hc, hs, ht⟩⟩
  simp only [keeps]
  split
  ·rename_i bo hcur
   exfalso
   have hl : cur.size = 1 := by rw [← Array.length_toList, hcur]; rfl
   rcases hk with rfl | hk | ⟨hm, hk⟩
   ·omega
   ·cases hk
   ·have : 0 < m * k := Nat.mul_pos hm hk
    cases xs with
    | nil => simp at h1; omega
    | cons u us =>
     rw [hcur] at ht
     obtain ⟨j, hj⟩ : ∃ j, m * k = j + 1 := ⟨m * k - 1, by omega⟩
     rw [hj] at ht
     simp at ht
     exact hx u (by simp) bo ht.1.symm
  ·rfl
structure ColI (w : World) (c : Nat) (e : TypeId) (size n : Nat) (cs : List Value) (ov : Value) (O : Nat → Prop) (W : World) : Prop where
 ext : Ext w W
 o : W.cell? ⟨c, 0, none⟩ = some ov
 f : W.frozen? ⟨c, 0, none⟩ = false
 own : W.ownsRow (c + 1) e size ov n cs
 low : ∀ j, O j ↔ j = c ∨ ov.ownBlock = some j
theorem owns_nb {w : World} {base : Nat} {e : TypeId} {size : Nat} {v : Value} {n : Nat} {xs : List Value} (h : w.ownsRow base e size v n xs) : NB v := by
 obtain ⟨_, ⟨rfl, _⟩ | ⟨g, cap, cur, rfl, _⟩⟩ := h <;> exact NB.slice _ _ _
theorem ColI.quiet {w : World} {c : Nat} {e : TypeId} {size m : Nat} {cs : List Value} {ov : Value} {O : Nat → Prop} {W W' : World} {n : Nat} (h : ColI w c e size m cs ov O W) (q : Quiet n W W') (hn : w.heap.size ≤ n) (hc : ∀ u, u ∈ cs → NB u) (hk : size = 2 ∨ ov = .slice none 0 0 ∨ 0 < m ∧ 0 < size) : ColI w c e size m cs ov O W' :=
 ⟨h.ext.quiet hn q, q.cell h.o (owns_nb h.own), (q.frozen h.o (owns_nb h.own)).trans h.f, owns_quiet h.own q hc hk, h.low⟩
theorem ColI.ext' {w : World} {c : Nat} {e : TypeId} {size m : Nat} {cs : List Value} {ov : Value} {O : Nat → Prop} {W W' : World} (h : ColI w c e size m cs ov O W) (q : Ext W W') : ColI w c e size m cs ov O W' :=
 ⟨h.ext.trans q, q.cell h.o, (q.frozen (lt_of_cell h.o)).trans h.f, owns_ext h.own q, h.low⟩
theorem ColI.push {w : World} {c : Nat} {e : TypeId} {size m : Nat} {cs us : List Value} {ov : Value} {O : Nat → Prop} {W w2 w5 : World} {ds : Array Value} {e' : TypeId} {g cap : Nat} (h : ColI w c e size m cs ov O W) (hwc : w.heap.size ≤ c) (q : Ext W w2)
  (hown5 : w5.ownsRow (c + 1) e size (.slice (some ⟨g, 0, none⟩) (m + 1) cap) (m + 1) us) (hg5 : (w2.alloc (.cells ds e')).grownBy w5 ov.ownBlock) (hloc : ov.ownBlock = some g ∨ g = w2.heap.size + 1) :
  (w5.cell? ⟨c, 0, none⟩ = some ov ∧ w5.frozen? ⟨c, 0, none⟩ = false) ∧ Touch O W (w5.setCell ⟨c, 0, none⟩ (.slice (some ⟨g, 0, none⟩) (m + 1) cap)) ∧
  (∀ j, j = c ∨ j = g → (O j ∨ W.heap.size ≤ j) ∧ j < (w5.setCell ⟨c, 0, none⟩ (.slice (some ⟨g, 0, none⟩) (m + 1) cap)).heap.size) ∧
  ColI w c e size (m + 1) us (.slice (some ⟨g, 0, none⟩) (m + 1) cap) (fun j => j = c ∨ j = g) (w5.setCell ⟨c, 0, none⟩ (.slice (some ⟨g, 0, none⟩) (m + 1) cap)) := by
 have hsz := q.size
 have hcl := lt_of_cell h.o
 have hb : ∀ k, ov.ownBlock = some k → c + 1 ≤ k := fun k hk => owns_block h.own k hk
 have nb : ¬ ov.ownBlock = some c := fun hk => by have := hb _ hk; omega
 have hx2 : Ext W (w2.alloc (.cells ds e')) := q.alloc _
 have hT : Touch (fun k => ov.ownBlock = some k) W w5 := (Touch.of_ext hx2).trans (Touch.grown hg5 (fun k hk => hk))
 have p0 := hT.cell h.o nb
 have p1 := (hT.frozen h.o nb).trans h.f
 have hTs : Touch O W (w5.setCell ⟨c, 0, none⟩ (.slice (some ⟨g, 0, none⟩) (m + 1) cap)) := (hT.mono (fun k hk => (h.low k).2 (.inr hk))).trans (Touch.setCell _ ((h.low c).2 (.inl rfl)))
 have hgb := owns_block hown5 g rfl
 have hgl := (World.ownsRow.lt hown5 g rfl).2
 have hs5 : (w5.setCell ⟨c, 0, none⟩ (.slice (some ⟨g, 0, none⟩) (m + 1) cap)).heap.size = w5.heap.size := by simp [World.setCell]
 refine ⟨⟨p0, p1⟩, hTs, fun j hj => ?_, ⟨?_, by go_simp, by go_simp, ?_, fun j => ?_⟩⟩
 ·rw [hs5]
  rcases hj with rfl | rfl
  ·exact ⟨.inl ((h.low _).2 (.inl rfl)), by have := lt_of_cell p0; exact this⟩
  ·refine ⟨?_, hgl⟩
   rcases hloc with hl | hl
   ·exact .inl ((h.low _).2 (.inr hl))
   ·exact .inr (by omega)
 ·refine Touch.ext h.ext hTs (fun j hj => ?_)
  rcases (h.low j).1 hj with rfl | hj
  ·exact hwc
  ·have := hb _ hj; omega
 ·exact owns_touch hown5 (Touch.setCell (M := (· = c)) _ rfl) (fun k hk => by have hk' : some g = some k := hk; cases hk'; omega)
 ·exact ⟨fun hj => hj.elim .inl (fun hj => .inr (by rw [hj]; rfl)), fun hj => hj.elim .inl (fun hj => .inr (by have hk' : some g = some j := hj; cases hk'; rfl))⟩
theorem callsIn_round {P : Program} {l : Nat} {f : FuncId} {args : Array Value} {w : World} {R : Ending → World → Prop} (h : Calls P f args w R) : CallsIn (Fence.wide.inRound l) 0 P f args w R := callsIn_wide.2 h
/-- What an edition's numbers can mean, as it lies in memory. -/
structure Pg where
 v : Value
 l : List Int
 bef : Int
 aft : Int
def pgC (p : Pg) : List Value := [p.v, .int .i64 p.bef, .int .i64 p.aft]
def pgCells (r : List Pg) : List Value := r.flatMap pgC
theorem pgCells_len : ∀ r : List Pg, (pgCells r).length = r.length * 3
 | [] => rfl
 | p :: r => by have h := pgCells_len r; unfold pgCells at *; rw [List.flatMap_cons, List.length_append, h]; simp [pgC]; omega
theorem pgCells_at {r : List Pg} {i : Nat} {p : Pg} (h : r[i]? = some p) : (pgCells r)[i * 3]? = some p.v ∧ (pgCells r)[i * 3 + 1]? = some (.int .i64 p.bef) ∧ (pgCells r)[i * 3 + 2]? = some (.int .i64 p.aft) :=
 ⟨by have := flatMap_at pgC 3 (fun _ => rfl) r i 0 p h (by omega); rw [Nat.add_zero] at this; exact this, flatMap_at pgC 3 (fun _ => rfl) r i 1 p h (by omega), flatMap_at pgC 3 (fun _ => rfl) r i 2 p h (by omega)⟩
theorem pgCells_push (r : List Pg) (p : Pg) : pgCells (r ++ [p]) = pgCells r ++ pgC p := by unfold pgCells; simp
theorem pgCells_set : ∀ {r : List Pg} {i : Nat} {p : Pg}, i < r.length → (((pgCells r).set (i * 3) p.v).set (i * 3 + 1) (.int .i64 p.bef)).set (i * 3 + 2) (.int .i64 p.aft) = pgCells (r.set i p)
 | [], i, p, h => by simp at h
 | q :: r, 0, p, _ => by simp [pgCells, pgC]
 | q :: r, i + 1, p, h => by
  have ih := pgCells_set (r := r) (i := i) (p := p) (by simpa using h)
  have e1 : pgCells (q :: r) = q.v :: .int .i64 q.bef :: .int .i64 q.aft :: pgCells r := rfl
  have e2 : pgCells ((q :: r).set (i + 1) p) = q.v :: .int .i64 q.bef :: .int .i64 q.aft :: pgCells (r.set i p) := rfl
  rw [e1, e2, ← ih, show (i + 1) * 3 = i * 3 + 1 + 1 + 1 by omega]
  simp only [List.set_cons_succ]
theorem E_pages : Elem Tryz.prog 98 100 3 40 (.agg #[.slice none 0 0, .int .i64 0, .int .i64 0]) := by
 obtain ⟨i, h1, h2, h3, h4⟩ := info_parts (P := Tryz.prog) (e := 100) (z := .agg #[.slice none 0 0, .int .i64 0, .int .i64 0]) (size := 3) (bytes := 40) (by kernel_rfl)
 exact ⟨Tryz.underlying98, ⟨i, h1, h2, h3, h4⟩, rfl, by decide⟩
theorem E_pagess : Elem Tryz.prog 93 98 1 24 (.slice none 0 0) := by
 obtain ⟨i, h1, h2, h3, h4⟩ := info_parts (P := Tryz.prog) (e := 98) (z := .slice none 0 0) (size := 1) (bytes := 24) (by kernel_rfl)
 exact ⟨Tryz.underlying93, ⟨i, h1, h2, h3, h4⟩, rfl, by decide⟩
/-- A row of pages out of blocks from lo to hi: it is owned; its pages' lists lie apart from it. -/
structure PgRow (W : World) (lo hi : Nat) (v : Value) (r : List Pg) : Prop where
 own : W.ownsRow lo 100 3 v r.length (pgCells r)
 blk : ∀ g, v.ownBlock = some g → g < hi
 mean : ∀ p, p ∈ r → IntsAt W p.v p.l
 off : ∀ p, p ∈ r → ∀ a n k, p.v = .slice (some a) n k → lo ≤ a.block ∧ a.block < hi ∧ v.ownBlock ≠ some a.block
theorem ints_touch {D : Nat → Prop} {A B : World} {v : Value} {l : List Int} (h : IntsAt A v l) (k : Touch D A B) (hn : ∀ a n c, v = .slice (some a) n c → ¬ D a.block) : IntsAt B v l := by
 obtain ⟨a, c, rfl, h1, h2, h0, h3⟩ := h
 exact ⟨a, c, rfl, h1, h2, h0, fun j u hj => by
  obtain ⟨b, o, rfl, hc⟩ := h3 j u hj
  exact ⟨b, o, rfl, k.cell hc (hn ⟨b, o, none⟩ _ _ rfl)⟩⟩
theorem PgRow.touch {D : Nat → Prop} {A B : World} {lo hi : Nat} {v : Value} {r : List Pg} (h : PgRow A lo hi v r) (k : Touch D A B) (hD : ∀ i, D i → i < lo ∨ hi ≤ i) : PgRow B lo hi v r :=
 ⟨owns_touch h.own k (fun g hg hd => by have := hD g hd; have := h.blk g hg; have := owns_block h.own g hg; omega), h.blk,
  fun p hp => ints_touch (h.mean p hp) k (fun a n c e hd => by have := hD _ hd; have := h.off p hp a n c e; omega), h.off⟩
theorem PgRow.ext {A B : World} {lo hi : Nat} {v : Value} {r : List Pg} (h : PgRow A lo hi v r) (k : Ext A B) : PgRow B lo hi v r := h.touch (D := fun _ => False) (Touch.of_ext k) (fun _ h => h.elim)
/-- Rows of pages, the rows of an open book: ob its own block; iv: where the blocks of each row lie. -/
structure Grid (W : World) (B : Nat) (ob oc : Nat) (vs : List Value) (iv : List (Nat × Nat)) (rows : List (List Pg)) : Prop where
 lv : vs.length = rows.length
 li : iv.length = rows.length
 out : W.ownsRow B 98 1 (.slice (some ⟨ob, 0, none⟩) rows.length oc) rows.length vs
 row : ∀ (e : Nat) (v : Value) (i : Nat × Nat) (r : List Pg), vs[e]? = some v → iv[e]? = some i → rows[e]? = some r → PgRow W i.1 i.2 v r ∧ B ≤ i.1 ∧ i.2 ≤ W.heap.size ∧ (ob < i.1 ∨ i.2 ≤ ob)
 apart : ∀ (e f : Nat) (i j : Nat × Nat), iv[e]? = some i → iv[f]? = some j → e < f → i.2 ≤ j.1
theorem Grid.touch {D : Nat → Prop} {A A' : World} {B ob oc : Nat} {vs : List Value} {iv : List (Nat × Nat)} {rows : List (List Pg)} (h : Grid A B ob oc vs iv rows) (k : Touch D A A') (hD : ∀ i, D i → i < B) : Grid A' B ob oc vs iv rows where
 lv := h.lv
 li := h.li
 out := owns_touch h.out k (fun g hg hd => by have := hD g hd; have := owns_block h.out g hg; omega)
 row e v i r h1 h2 h3 := by
  obtain ⟨g1, g2, g3, g4⟩ := h.row e v i r h1 h2 h3
  exact ⟨g1.touch k (fun j hj => .inl (Nat.lt_of_lt_of_le (hD j hj) g2)), g2, Nat.le_trans g3 k.size, g4⟩
 apart := h.apart
theorem Grid.ext {A A' : World} {B ob oc : Nat} {vs : List Value} {iv : List (Nat × Nat)} {rows : List (List Pg)} (h : Grid A B ob oc vs iv rows) (k : Ext A A') : Grid A' B ob oc vs iv rows := h.touch (D := fun _ => False) (Touch.of_ext k) (fun _ h => h.elim)
/-- What a walk reads of a row of the grid. -/
theorem Grid.at {W : World} {B ob oc : Nat} {vs : List Value} {iv : List (Nat × Nat)} {rows : List (List Pg)} (h : Grid W B ob oc vs iv rows) {e : Nat} {r : List Pg} (hr : rows[e]? = some r) :
  ∃ v i, vs[e]? = some v ∧ iv[e]? = some i ∧ W.cell? ⟨ob, e, none⟩ = some v ∧ PgRow W i.1 i.2 v r ∧ B ≤ i.1 ∧ i.2 ≤ W.heap.size ∧ (ob < i.1 ∨ i.2 ≤ ob) := by
 have hl := (List.getElem?_eq_some_iff.1 hr).1
 have h1 : vs[e]? = some (vs[e]'(by rw [h.lv]; exact hl)) := by simp
 have h2 : iv[e]? = some (iv[e]'(by rw [h.li]; exact hl)) := by simp
 obtain ⟨g1, g2, g3, g4⟩ := h.row e _ _ r h1 h2 hr
 exact ⟨_, _, h1, h2, by rw [h.out.cellAt e (by omega), h1], g1, g2, g3, g4⟩
/-- One row of the grid turns, within its own blocks. -/
theorem Grid.turn {A A' : World} {B ob oc : Nat} {vs : List Value} {iv : List (Nat × Nat)} {rows : List (List Pg)} (h : Grid A B ob oc vs iv rows) {e : Nat} {v : Value} {i : Nat × Nat} {r r' : List Pg} (h1 : vs[e]? = some v) (h2 : iv[e]? = some i) (h3 : rows[e]? = some r)
  (k : Touch (fun b => v.ownBlock = some b) A A') (hn : PgRow A' i.1 i.2 v r') : Grid A' B ob oc vs iv (rows.set e r') := by
 obtain ⟨g1, g2, g3, g4⟩ := h.row e v i r h1 h2 h3
 have hob : ∀ b, v.ownBlock = some b → i.1 ≤ b ∧ b < i.2 := fun b hb => ⟨owns_block g1.own b hb, g1.blk b hb⟩
 refine ⟨by simp [h.lv], by simp [h.li], ?_, fun f u j s q1 q2 q3 => ?_, h.apart⟩
 ·rw [List.length_set]
  exact owns_touch h.out k (fun g hg hd => by cases hg; have := hob _ hd; simp only at this; omega)
 ·by_cases ef : e = f
  ·subst ef
   rw [h1] at q1; rw [h2] at q2
   cases q1; cases q2
   have hl := (List.getElem?_eq_some_iff.1 h3).1
   rw [List.getElem?_set_self hl] at q3
   cases q3
   exact ⟨hn, g2, Nat.le_trans g3 k.size, g4⟩
  ·rw [List.getElem?_set_ne ef] at q3
   obtain ⟨p1, p2, p3, p4⟩ := h.row f u j s q1 q2 q3
   refine ⟨p1.touch k (fun b hb => ?_), p2, Nat.le_trans p3 k.size, p4⟩
   have hb' := hob b hb
   rcases Nat.lt_or_ge e f with hlt | hge
   ·have := h.apart e f i j h2 q2 hlt; omega
   ·have := h.apart f e j i q2 h2 (by omega); omega
end Go.Proofs.YtokananogogjaaaGreatDoor

/- count, and the functions that it is given. -/
namespace Go.Proofs.YtokananogogjaaaGreatDoor
open Go.RowKit
theorem set1_any (b o : Nat) (n : Int) (x : Value) (W : World) (hc : W.cell? ⟨b, o + 1, none⟩ = some x) (hf : W.frozen? ⟨b, o + 1, none⟩ = false) :
 Calls Tryz.prog 118 #[.pointer (some ⟨b, o, none⟩), .int .i64 n] W fun e w' => e = .returned (.tuple #[]) ∧ w' = W.setCell ⟨b, o + 1, none⟩ (.int .i64 n) := by
 go_enter Tryz.func118, Tryz.ntmps118
 go_wp2
 go_end0
 exact ⟨rfl, rfl⟩
theorem enters_set1 : ∀ args w, (callFunc 118 args).run Tryz.prog w = .ok (.enter 118 args) w := enters_of Tryz.func118 (by kernel_rfl) rfl
theorem get1_any (p : Pg) (W : World) (hv : ∃ a n c, p.v = .slice a n c) :
 Calls Tryz.prog 119 #[.agg #[p.v, .int .i64 p.bef, .int .i64 p.aft]] W fun e w' => e = .returned (.int .i64 p.bef) ∧ Ext W w' := by
 obtain ⟨a, n, c, hv⟩ := hv
 rw [hv]
 go_enter Tryz.func119, Tryz.ntmps119
 go_wp2
 go_ret
 exact ⟨rfl, (Ext.refl W).alloc _⟩
theorem enters_get1 : ∀ args w, (callFunc 119 args).run Tryz.prog w = .ok (.enter 119 args) w := enters_of Tryz.func119 (by kernel_rfl) rfl
theorem set2_any (b o : Nat) (n : Int) (x : Value) (W : World) (hc : W.cell? ⟨b, o + 2, none⟩ = some x) (hf : W.frozen? ⟨b, o + 2, none⟩ = false) :
 Calls Tryz.prog 120 #[.pointer (some ⟨b, o, none⟩), .int .i64 n] W fun e w' => e = .returned (.tuple #[]) ∧ w' = W.setCell ⟨b, o + 2, none⟩ (.int .i64 n) := by
 go_enter Tryz.func120, Tryz.ntmps120
 go_wp2
 go_end0
 exact ⟨rfl, rfl⟩
theorem enters_set2 : ∀ args w, (callFunc 120 args).run Tryz.prog w = .ok (.enter 120 args) w := enters_of Tryz.func120 (by kernel_rfl) rfl
theorem get2_any (p : Pg) (W : World) (hv : ∃ a n c, p.v = .slice a n c) :
 Calls Tryz.prog 121 #[.agg #[p.v, .int .i64 p.bef, .int .i64 p.aft]] W fun e w' => e = .returned (.int .i64 p.aft) ∧ Ext W w' := by
 obtain ⟨a, n, c, hv⟩ := hv
 rw [hv]
 go_enter Tryz.func121, Tryz.ntmps121
 go_wp2
 go_ret
 exact ⟨rfl, (Ext.refl W).alloc _⟩
theorem enters_get2 : ∀ args w, (callFunc 121 args).run Tryz.prog w = .ok (.enter 121 args) w := enters_of Tryz.func121 (by kernel_rfl) rfl
def cntP (m : Int) (get : Pg → Int) (s : List Pg) (l : List Int) : Int := ((s.filter fun x => decide (movedL l x.l ≤ m)).map get).sum
theorem cnt_take {m : Int} {get : Pg → Int} {s : List Pg} {k : Nat} {x : Pg} (l : List Int) (h : s[k]? = some x) : cntP m get (s.take (k + 1)) l = cntP m get (s.take k) l + (if movedL l x.l ≤ m then get x else 0) := by
 unfold cntP
 rw [List.take_add_one, h, Option.toList_some, List.filter_append, List.map_append, List.sum_append]
 by_cases hm : movedL l x.l ≤ m <;> simp [hm]
theorem cnt_bd {m : Int} {get : Pg → Int} {s : List Pg} {C : Int} (l : List Int) (h : ∀ x, x ∈ s → 0 ≤ get x ∧ get x ≤ C) (hC : 0 ≤ C) : ∀ k, 0 ≤ cntP m get (s.take k) l ∧ cntP m get (s.take k) l ≤ C * k
 | 0 => by simp [cntP]
 | k + 1 => by
  have ih := cnt_bd (m := m) l h hC k
  have e1 : C * ((k + 1 : Nat) : Int) = C * k + C := by rw [Int.natCast_add, Int.mul_add]; simp
  cases hx : s[k]? with
  | none =>
   have e : s.take (k + 1) = s.take k := by rw [List.take_add_one, hx]; simp
   rw [e]; omega
  | some x =>
   have hb := h x (List.mem_of_getElem? hx)
   rw [cnt_take l hx]
   split <;> omega
/-- What a page is with a number more; fld: which one. -/
def updP (fld : Nat) (p : Pg) (n : Int) : Pg := if fld = 1 then ⟨p.v, p.l, n, p.aft⟩ else ⟨p.v, p.l, p.bef, n⟩
theorem updP_v (fld : Nat) (p : Pg) (n : Int) : (updP fld p n).v = p.v ∧ (updP fld p n).l = p.l := by unfold updP; split <;> exact ⟨rfl, rfl⟩
theorem upd_cells {r : List Pg} {i fld : Nat} {p : Pg} (n : Int) (h : r[i]? = some p) (hf : fld = 1 ∨ fld = 2) : (pgCells r).set (i * 3 + fld) (.int .i64 n) = pgCells (r.set i (updP fld p n)) := by
 have hl := (List.getElem?_eq_some_iff.1 h).1
 obtain ⟨h0, h1, h2⟩ := pgCells_at h
 rw [← pgCells_set hl]
 have key : ∀ (c : List Value) (j : Nat) (v : Value), c[j]? = some v → c.set j v = c := fun c j v hj => by
  apply List.ext_getElem?
  intro q
  by_cases e : j = q
  ·subst e; rw [List.getElem?_set_self (List.getElem?_eq_some_iff.1 hj).1, hj]
  ·rw [List.getElem?_set_ne e]
 rcases hf with rfl | rfl
 ·have e : updP 1 p n = ⟨p.v, p.l, n, p.aft⟩ := rfl
  rw [e]
  simp only
  rw [key _ _ _ h0]
  exact (key _ _ _ (by rw [List.getElem?_set_ne (by omega)]; exact h2)).symm
 ·have e : updP 2 p n = ⟨p.v, p.l, p.bef, n⟩ := rfl
  rw [e]
  simp only
  rw [key _ _ _ h0, key _ _ _ h1]
/-- A number of a page turns. -/
theorem PgRow.upd {W : World} {lo hi g c N : Nat} {r : List Pg} {i fld : Nat} {p : Pg} (n : Int) (hN : N = r.length) (h : PgRow W lo hi (.slice (some ⟨g, 0, none⟩) N c) r) (hi' : r[i]? = some p) (hf : fld = 1 ∨ fld = 2) :
 PgRow (W.setCell ⟨g, i * 3 + fld, none⟩ (.int .i64 n)) lo hi (.slice (some ⟨g, 0, none⟩) N c) (r.set i (updP fld p n)) ∧ Touch (fun b => b = g) W (W.setCell ⟨g, i * 3 + fld, none⟩ (.int .i64 n)) := by
 subst hN
 have ht : Touch (fun b => b = g) W (W.setCell ⟨g, i * 3 + fld, none⟩ (.int .i64 n)) := Touch.setCell _ rfl
 have hst := (h.own.stored (i * 3 + fld) (.int .i64 n)).1
 rw [upd_cells n hi' hf] at hst
 have hmem : ∀ q, q ∈ r.set i (updP fld p n) → ∃ q', q' ∈ r ∧ q.v = q'.v ∧ q.l = q'.l := fun q hq => by
  rcases List.mem_or_eq_of_mem_set hq with hq | rfl
  ·exact ⟨q, hq, rfl, rfl⟩
  ·exact ⟨p, List.mem_of_getElem? hi', updP_v fld p n⟩
 refine ⟨⟨by rw [List.length_set]; exact hst, h.blk, fun q hq => ?_, fun q hq a m k e => ?_⟩, ht⟩
 ·obtain ⟨q', hq', e1, e2⟩ := hmem q hq
  rw [e1, e2]
  exact ints_touch (h.mean q' hq') ht (fun a m k e hb => (h.off q' hq' a m k e).2.2 (by rw [hb]; rfl))
 ·obtain ⟨q', hq', e1, e2⟩ := hmem q hq
  rw [e1] at e
  exact h.off q' hq' a m k e
def updTo (fld : Nat) (m : Int) (get : Pg → Int) (s r : List Pg) (i : Nat) : List Pg := (r.take i).map (fun p => updP fld p (cntP m get s p.l)) ++ r.drop i
theorem updTo_zero (fld : Nat) (m : Int) (get : Pg → Int) (s r : List Pg) : updTo fld m get s r 0 = r := by simp [updTo]
theorem updTo_all (fld : Nat) (m : Int) (get : Pg → Int) (s r : List Pg) : updTo fld m get s r r.length = r.map (fun p => updP fld p (cntP m get s p.l)) := by simp [updTo]
theorem updTo_len (fld : Nat) (m : Int) (get : Pg → Int) (s r : List Pg) {i : Nat} (h : i ≤ r.length) : (updTo fld m get s r i).length = r.length := by simp [updTo]; omega
theorem updTo_at (fld : Nat) (m : Int) (get : Pg → Int) (s r : List Pg) {i : Nat} {p : Pg} (h : r[i]? = some p) : (updTo fld m get s r i)[i]? = some p := by
 have hl := (List.getElem?_eq_some_iff.1 h).1
 unfold updTo
 rw [List.getElem?_append_right (by simp; omega), List.length_map, List.length_take_of_le (by omega), Nat.sub_self, List.getElem?_drop, Nat.add_zero]; exact h
theorem updTo_succ (fld : Nat) (m : Int) (get : Pg → Int) (s r : List Pg) {i : Nat} {p : Pg} (h : r[i]? = some p) : (updTo fld m get s r i).set i (updP fld p (cntP m get s p.l)) = updTo fld m get s r (i + 1) := by
 obtain ⟨hl, hp⟩ := List.getElem?_eq_some_iff.1 h
 unfold updTo
 rw [List.set_append_right _ _ (by simp; omega), List.length_map, List.length_take_of_le (by omega), Nat.sub_self, List.drop_eq_getElem_cons hl, List.set_cons_zero, List.take_add_one, h]
 simp
theorem pg_mem {fld : Nat} {m : Int} {get : Pg → Int} {s r : List Pg} {i : Nat} {q : Pg} (h : q ∈ updTo fld m get s r i) : ∃ p, p ∈ r ∧ q.l = p.l := by
 unfold updTo at h
 rcases List.mem_append.1 h with h | h
 ·obtain ⟨p, hp, rfl⟩ := List.mem_map.1 h
  exact ⟨p, List.mem_of_mem_take hp, (updP_v _ _ _).2⟩
 ·exact ⟨q, List.mem_of_mem_drop h, rfl⟩
/-- The box of an open book. -/
abbrev openBox (gv : Value) (ed mo : Int) (ev pv : Value) : Obj := .cells #[gv, .int .i64 ed, .int .i64 mo, ev, pv] 95
def CountPost (B ob oc : Nat) (vs : List Value) (iv : List (Nat × Nat)) (rows : List (List Pg)) (fld : Nat) (m : Int) (get : Pg → Int) (e : Nat) (r s : List Pg) (W : World) (x : Ending) (w' : World) : Prop :=
 x = .returned (.tuple #[]) ∧ Grid w' B ob oc vs iv (rows.set e (r.map fun p => updP fld p (cntP m get s p.l))) ∧ Touch (fun b => ∃ v, vs[e]? = some v ∧ v.ownBlock = some b) W w'
theorem owns_some {W : World} {base : Nat} {e : TypeId} {size : Nat} {v : Value} {n : Nat} {xs : List Value} (h : W.ownsRow base e size v n xs) (hi : 0 < n) : ∃ g cap, v = .slice (some ⟨g, 0, none⟩) n cap ∧ base ≤ g ∧ g < W.heap.size := by
 obtain ⟨m, rfl⟩ : ∃ m, n = m + 1 := ⟨n - 1, by omega⟩
 obtain ⟨g, cap, rfl⟩ := owns_succ h
 have := World.ownsRow.lt h g rfl
 exact ⟨g, cap, rfl, this.1, this.2⟩
theorem owns_slice {W : World} {base : Nat} {e : TypeId} {size : Nat} {v : Value} {n : Nat} {xs : List Value} (h : W.ownsRow base e size v n xs) : ∃ a c, v = .slice a n c ∧ n ≤ c ∧ c ≤ 9223372036854775807 := by
 obtain ⟨a, c, rfl, h1, h2, _⟩ := RowAt.of_owns h
 exact ⟨a, c, rfl, h1, h2⟩
set_option maxRecDepth 100000 in
set_option maxHeartbeats 8000000 in
theorem count_any (fld sf gf : Nat) (get : Pg → Int) (hfld : fld = 1 ∨ fld = 2)
 (hset : ∀ (b o : Nat) (n : Int) (x : Value) (W : World), W.cell? ⟨b, o + fld, none⟩ = some x → W.frozen? ⟨b, o + fld, none⟩ = false → Calls Tryz.prog sf #[.pointer (some ⟨b, o, none⟩), .int .i64 n] W fun e w' => e = .returned (.tuple #[]) ∧ w' = W.setCell ⟨b, o + fld, none⟩ (.int .i64 n))
 (hget : ∀ (p : Pg) (W : World), (∃ a n c, p.v = .slice a n c) → Calls Tryz.prog gf #[.agg #[p.v, .int .i64 p.bef, .int .i64 p.aft]] W fun e w' => e = .returned (.int .i64 (get p)) ∧ Ext W w')
 (es : ∀ args w, (callFunc sf args).run Tryz.prog w = .ok (.enter sf args) w) (eg : ∀ args w, (callFunc gf args).run Tryz.prog w = .ok (.enter gf args) w)
 (gv ev : Value) (hgv : ∃ a n c, gv = .slice a n c) (hev : ∃ a n c, ev = .slice a n c) (ed mo : Int) (B ob oc : Nat) (vs : List Value) (iv : List (Nat × Nat)) (rows : List (List Pg)) (W : World) (hG : Grid W B ob oc vs iv rows) (e f : Nat) (r s : List Pg) (hr : rows[e]? = some r) (hs : rows[f]? = some s) (hef : e ≠ f)
 (hlen : ∀ p x, p ∈ r → x ∈ s → p.l.length = x.l.length) (hgt : ∀ x, x ∈ s → 0 ≤ get x ∧ get x ≤ 100000000) (hsl : s.length ≤ 4000) (hrl : r.length ≤ 4000) :
 Calls Tryz.prog 117 #[.agg #[gv, .int .i64 ed, .int .i64 mo, ev, .slice (some ⟨ob, 0, none⟩) rows.length oc], .int .i64 (e : Int), .int .i64 (f : Int), .func (.func sf) #[] #[], .func (.func gf) #[] #[]] W (CountPost B ob oc vs iv rows fld mo get e r s W) := by
 obtain ⟨ga, gn, gc, rfl⟩ := hgv
 obtain ⟨ea, en, ec, rfl⟩ := hev
 obtain ⟨v, i, hv, hi, hcv, hP, hB, hsz, hob⟩ := hG.at hr
 obtain ⟨u, j, hu, hj, hcu, hQ, hB2, hsz2, hob2⟩ := hG.at hs
 obtain ⟨a, c, rfl, c1, c2⟩ := owns_slice hP.own
 obtain ⟨a', c', rfl, c1', c2'⟩ := owns_slice hQ.own
 have hel : e < rows.length := (List.getElem?_eq_some_iff.1 hr).1
 have hfl : f < rows.length := (List.getElem?_eq_some_iff.1 hs).1
 have hol := owns_slice hG.out
 obtain ⟨_, _, hoe, o1, o2⟩ := hol
 cases hoe
 obtain ⟨W1, hW1⟩ : ∃ W1, W1 = W.alloc (openBox (.slice ga gn gc) ed mo (.slice ea en ec) (.slice (some ⟨ob, 0, none⟩) rows.length oc)) := ⟨_, rfl⟩
 have hx1 : Ext W W1 := by rw [hW1]; exact (Ext.refl W).alloc _
 have q2 : W1.cell? ⟨W.heap.size, 2, none⟩ = some (.int .i64 mo) := by rw [hW1]; go_simp
 have q4 : W1.cell? ⟨W.heap.size, 4, none⟩ = some (.slice (some ⟨ob, 0, none⟩) rows.length oc) := by rw [hW1]; go_simp
 have hobl := (World.ownsRow.lt hG.out ob rfl).2
 have hobB := (World.ownsRow.lt hG.out ob rfl).1
 have hai : ∀ b, Value.ownBlock (.slice a r.length c) = some b → i.1 ≤ b ∧ b < i.2 := fun b hb => ⟨owns_block hP.own b hb, hP.blk b hb⟩
 -- what stays as it is while row e turns
 have hK : ∀ (wr : World), Touch (fun b => Value.ownBlock (.slice a r.length c) = some b) W1 wr → wr.cell? ⟨W.heap.size, 2, none⟩ = some (.int .i64 mo) ∧ wr.cell? ⟨W.heap.size, 4, none⟩ = some (.slice (some ⟨ob, 0, none⟩) rows.length oc) ∧ wr.cell? ⟨ob, e, none⟩ = some (.slice a r.length c) ∧ wr.cell? ⟨ob, f, none⟩ = some (.slice a' s.length c') ∧ PgRow wr j.1 j.2 (.slice a' s.length c') s :=
  fun wr ht => ⟨ht.cell q2 (fun h => by have := hai _ h; simp only at this; omega), ht.cell q4 (fun h => by have := hai _ h; simp only at this; omega),
  ht.cell (hx1.cell hcv) (fun h => by have := hai _ h; simp only at this; omega), ht.cell (hx1.cell hcu) (fun h => by have := hai _ h; simp only at this; omega), (hQ.ext hx1).touch ht (fun b hb => by
   have := hai b hb
   rcases Nat.lt_or_ge e f with hlt | hge
   ·have := hG.apart e f i j hi hj hlt; omega
   ·have := hG.apart f e j i hj hi (by omega); omega)⟩
 have HK := Lib.hid hK
 have hE : ∀ (wr : World), Touch (fun b => Value.ownBlock (.slice a r.length c) = some b) W1 wr → PgRow wr i.1 i.2 (.slice a r.length c) (r.map fun p => updP fld p (cntP mo get s p.l)) → CountPost B ob oc vs iv rows fld mo get e r s W (.returned (.tuple #[])) wr :=
  fun wr ht hp => ⟨rfl, (hG.ext hx1).turn hv hi hr ht hp, (Touch.of_ext hx1).trans (ht.mono (fun b hb => ⟨_, hv, hb⟩))⟩
 have HE := Lib.hid hE
 have HP0 := Lib.hid (hP.ext hx1)
 have HLN := Lib.hid hlen
 have HGT := Lib.hid hgt
 have HST := Lib.hid hset
 have HGE := Lib.hid hget
 have he1 : (0 : Int) ≤ (e : Int) := by omega
 have he2 : (e : Int) < (rows.length : Int) := by omega
 have hf1 : (0 : Int) ≤ (f : Int) := by omega
 have hf2 : (f : Int) < (rows.length : Int) := by omega
 clear hK hE hG hP hQ hv hi hu hj hai hlen hgt hset hget hr hs hob hob2 hsz hsz2 hB hB2 hobl hobB hcv hcu
 go_enter Tryz.func117, Tryz.ntmps117
 go_upto_region 1 with fail
 unfold openBox at hW1
 rw [← hW1]
 clear hW1
 obtain ⟨k2, k4, ke, kf, _⟩ := HK.out W1 (Touch.refl _ _)
 go_wp2
 clear k2 k4 ke kf q2 q4
 go_loopw [21] (fun x wr => ∃ k : Nat, k ≤ r.length ∧ x = .int .i64 k ∧ PgRow wr i.1 i.2 (.slice a r.length c) (updTo fld mo get s r k) ∧ Touch (fun b => Value.ownBlock (.slice a r.length c) = some b) W1 wr) (fun x _ => r.length - (intOf x).toNat)
 case atStart => exact ⟨0, Nat.zero_le _, rfl, by rw [updTo_zero]; exact HP0.out, Touch.refl _ _⟩
 case round =>
  obtain ⟨k, hk, rfl, hp, ht⟩ := hrel
  by_cases hlt : k < r.length
  ·have hpo := hp.own
   rw [updTo_len _ _ _ _ _ hk] at hpo
   obtain ⟨g, _, hga, _⟩ := owns_some hpo (by omega)
   have hag : a = some ⟨g, 0, none⟩ := by cases hga; rfl
   subst hag
   clear hga
   obtain ⟨p, hpk⟩ : ∃ p, r[k]? = some p := ⟨r[k], by simp [hlt]⟩
   have hpm := List.mem_of_getElem? hpk
   have hat := pgCells_at (updTo_at fld mo get s r hpk)
   have HSC := Lib.hid (updTo_succ fld mo get s r hpk)
   have d0 : wr.cell? ⟨g, k * 3, none⟩ = some p.v := by rw [hpo.cellAt _ (by omega)]; exact hat.1
   have dset : ∃ x, wr.cell? ⟨g, k * 3 + fld, none⟩ = some x ∧ wr.frozen? ⟨g, k * 3 + fld, none⟩ = false := by
    rcases hfld with rfl | rfl
    ·exact ⟨_, by rw [hpo.cellAt _ (by omega)]; exact hat.2.1, hpo.frozenAt _⟩
    ·exact ⟨_, by rw [hpo.cellAt _ (by omega)]; exact hat.2.2, hpo.frozenAt _⟩
   have hmp := hp.mean p (List.mem_of_getElem? (updTo_at fld mo get s r hpk))
   obtain ⟨pa, pc, hpv, _, _, _⟩ := hmp.open
   rw [hpv] at hmp d0
   obtain ⟨k2, k4, ke, kf, HQW⟩ := HK.out wr ht
   have HQH := Lib.hid HQW
   have HAT := Lib.hid (fun (wz : World) (hz : Ext wr wz) => (⟨hz.cell k2, hz.cell k4, hz.cell ke, hz.cell kf, hz.cell d0⟩ : _ ∧ _ ∧ _ ∧ _ ∧ _))
   have HMP := Lib.hid hmp
   have HPP := Lib.hid hp
   have HTT := Lib.hid ht
   have HPO := Lib.hid hpo
   have hlr : (k : Int) < (r.length : Int) := by omega
   have hlr0 : (0 : Int) ≤ (k : Int) := by omega
   have HUL := Lib.hid (updTo_at fld mo get s r hpk)
   have HPK := Lib.hid hpk
   clear hat HQW hmp hp ht hpo hpk
   go_upto_region 5 with fail
   go_wp2
   clear k2 k4 ke kf d0
   obtain ⟨w4, rfl⟩ : ∃ w4 : World, w4 = wr := ⟨_, rfl⟩
   go_loopw [12, 37] (fun n x wz => ∃ q : Nat, q ≤ s.length ∧ x = .int .i64 q ∧ n = .int .i64 (cntP mo get (s.take q) p.l) ∧ Ext w4 wz) (fun _ x _ => s.length - (intOf x).toNat)
   case atStart => exact ⟨0, Nat.zero_le _, rfl, by simp [cntP], Ext.refl _⟩
   case round =>
    obtain ⟨q, hq, rfl, rfl, hz⟩ := hrel
    obtain ⟨k2, k4, ke, kf, d0⟩ := HAT.out wr hz
    by_cases hql : q < s.length
    ·have hqo := (HQH.out.ext hz)
     have hqw := hqo.own
     obtain ⟨g', _, hga, _⟩ := owns_some hqw (by omega)
     have hag : a' = some ⟨g', 0, none⟩ := by cases hga; rfl
     subst hag
     clear hga
     obtain ⟨x, hxq⟩ : ∃ x, s[q]? = some x := ⟨s[q], by simp [hql]⟩
     have hxm := List.mem_of_getElem? hxq
     have hat := pgCells_at hxq
     have x0 : wr.cell? ⟨g', q * 3, none⟩ = some x.v := by rw [hqw.cellAt _ (by omega)]; exact hat.1
     have x1 : wr.cell? ⟨g', q * 3 + 1, none⟩ = some (.int .i64 x.bef) := by rw [hqw.cellAt _ (by omega)]; exact hat.2.1
     have x2 : wr.cell? ⟨g', q * 3 + 2, none⟩ = some (.int .i64 x.aft) := by rw [hqw.cellAt _ (by omega)]; exact hat.2.2
     have hxi := hqo.mean x hxm
     obtain ⟨xa, xc, hxv, _, _, _⟩ := hxi.open
     have HGX := Lib.hid (fun W' => HGE.out x W' ⟨_, _, _, hxv⟩)
     rw [hxv] at x0 hxi HGX
     have HXI := Lib.hid hxi
     have hxl := Lib.hid (HLN.out p x hpm hxm)
     have hgx := HGT.out x hxm
     have hcb := cnt_bd (m := mo) p.l HGT.out (by omega) q
     have hcs := cnt_take (m := mo) (get := get) p.l hxq
     clear hat hqo hqw hxi hxv hxq
     go_upto_region 9 with fail
     obtain ⟨WZ, hWZ⟩ : ∃ WZ, WZ = wr.alloc (.cells #[.slice xa x.l.length xc, .int .i64 x.bef, .int .i64 x.aft] 100) := ⟨_, rfl⟩
     have hxz : Ext wr WZ := by rw [hWZ]; exact (Ext.refl wr).alloc _
     have y0 : WZ.cell? ⟨wr.heap.size, 0, none⟩ = some (.slice xa x.l.length xc) := by rw [hWZ]; go_simp
     have y1 : WZ.cell? ⟨wr.heap.size, 1, none⟩ = some (.int .i64 x.bef) := by rw [hWZ]; go_simp
     have y2 : WZ.cell? ⟨wr.heap.size, 2, none⟩ = some (.int .i64 x.aft) := by rw [hWZ]; go_simp
     rw [← hWZ]
     have HFZ := Lib.hid (fun W' (h : Ext WZ W') => (⟨(hxz.trans h).cell k2, (hxz.trans h).cell d0, h.cell y0, h.cell y1, h.cell y2⟩ : _ ∧ _ ∧ _ ∧ _ ∧ _))
     have HMV := Lib.hid (fun W' (h : Ext WZ W') => moves_any (.slice pa p.l.length pc) (.slice xa x.l.length xc) p.l x.l W' (HMP.out.ext (hz.trans (hxz.trans h))) (HXI.out.ext (hxz.trans h)) hxl.out)
     have HZ := Lib.hid (hz.trans hxz)
     clear k2 k4 ke kf d0 x0 x1 x2 y0 y1 y2 hWZ hxz hz
     generalize cntP mo get (s.take q) p.l = m0 at *
     cases hm : decide (movedL p.l x.l ≤ mo) with
     | true =>
      rw [if_pos (by simpa using hm)] at hcs
      have HCS := Lib.hid hcs
      clear hcs
      refine region_reads (C := fun W => Ext WZ W) (by kernel_rfl) (by kernel_rfl) ((Ext.refl WZ).drew) ?_
      repeat (first | go_big_quiet_skip | (go_big_quiet_want; go_big_quiet_op; first | go_big_quiet_on | (refine ⟨_, fun W hW => rfl, ?_⟩; go_big_quiet_on)) | (go_big_quiet_want; refine ⟨?_, fun W hW => ?_, ?_⟩; rotate_left; (· (obtain ⟨y1, y2, y3, y4, y5⟩ := HFZ.out W hW); go_simp; (first | with_reducible rfl | (go_at_call 151; refine (HMV.out W hW).mono ?_; rintro e w' ⟨rfl, hx1⟩; constructor; with_reducible rfl; exact hW.trans hx1))); (try simp only [Act.put, yA, yB, yC]); go_big_quiet_on))
      refine wpQuiet_nil ?_
      intro wq hq
      obtain ⟨y1, y2, y3, y4, y5⟩ := HFZ.out _ hq
      have HQQ := Lib.hid hq
      clear hq hm
      go_wp2_with (refine Calls.mono (HGX.out _) ?_; rintro e w' ⟨rfl, hx'⟩)
      go_roundw
      case rel => exact ⟨q + 1, by omega, by go_num, by rw [HCS.out], HZ.out.trans (HQQ.out.trans hx')⟩
      case measure => simp [intOf]; omega
     | false =>
      rw [if_neg (by simpa using hm)] at hcs
      have HCS := Lib.hid hcs
      clear hcs
      refine region_reads (C := fun W => Ext WZ W) (by kernel_rfl) (by kernel_rfl) ((Ext.refl WZ).drew) ?_
      repeat (first | go_big_quiet_skip | (go_big_quiet_want; go_big_quiet_op; first | go_big_quiet_on | (refine ⟨_, fun W hW => rfl, ?_⟩; go_big_quiet_on)) | (go_big_quiet_want; refine ⟨?_, fun W hW => ?_, ?_⟩; rotate_left; (· (obtain ⟨y1, y2, y3, y4, y5⟩ := HFZ.out W hW); go_simp; (first | with_reducible rfl | (go_at_call 151; refine (HMV.out W hW).mono ?_; rintro e w' ⟨rfl, hx1⟩; constructor; with_reducible rfl; exact hW.trans hx1))); (try simp only [Act.put, yA, yB, yC]); go_big_quiet_on))
      refine wpQuiet_nil ?_
      intro wq hq
      have HQQ := Lib.hid hq
      clear hq hm
      go_wp2
      go_roundw
      case rel => exact ⟨q + 1, by omega, by go_num, by rw [HCS.out]; go_num, HZ.out.trans HQQ.out⟩
      case measure => simp [intOf]; omega
    ·have HC : Hid (cntP mo get (s.take q) p.l = cntP mo get s p.l) := by unfold Hid; rw [List.take_of_length_le (by omega)]
     rw [HC.out]
     clear k2 k4 ke kf d0
     obtain ⟨xo, ds1, ds2⟩ := dset
     have e1 := hz.cell ds1
     have e2 := (hz.frozen (lt_of_cell ds1)).trans ds2
     have HS1 := Lib.hid (fun n => HST.out g (k * 3) n xo wr e1 e2)
     have hPw := (HPP.out.ext hz).upd (cntP mo get s p.l) (updTo_len fld mo get s r hk).symm (HUL.out) hfld
     rw [HSC.out] at hPw
     have HPW := Lib.hid hPw
     have HZ := Lib.hid hz
     clear hPw e1 e2 ds1 ds2 hz HC
     generalize cntP mo get s p.l = m0 at *
     go_wp2_with (refine Calls.mono (HS1.out _) ?_; rintro e w' ⟨rfl, rfl⟩)
     go_roundw
     case rel => exact ⟨k + 1, by omega, by go_num, HPW.out.1, (HTT.out.trans (Touch.of_ext HZ.out)).trans (HPW.out.2.mono (fun b hb => by rw [hb]; rfl))⟩
     case measure => simp [intOf]; omega
  ·have hke : k = r.length := by omega
   have HF := Lib.hid (HE.out wr ht (by rw [← updTo_all]; rw [hke] at hp; exact hp))
   clear hp ht hke
   go_wp2
   go_end0
   exact HF.out
end Go.Proofs.YtokananogogjaaaGreatDoor

/- DeleteFunc at pages: those that come in no truth are left out. -/
namespace Go.Proofs.YtokananogogjaaaGreatDoor
open Go.RowKit
def deadP (p : Pg) : Bool := p.bef * p.aft == 0
theorem dead_any (p : Pg) (W : World) (hv : ∃ a n c, p.v = .slice a n c) (h1 : 0 ≤ p.bef ∧ p.bef ≤ 100000000) (h2 : 0 ≤ p.aft ∧ p.aft ≤ 100000000) :
 Calls Tryz.prog 123 #[.agg #[p.v, .int .i64 p.bef, .int .i64 p.aft]] W fun e w' => e = .returned (.bool (deadP p)) ∧ Ext W w' := by
 obtain ⟨a, n, c, hv⟩ := hv
 obtain ⟨v, l, bef, aft⟩ := p
 simp only at hv h1 h2 ⊢
 subst hv
 have hm : 0 ≤ bef * aft := Int.mul_nonneg h1.1 h2.1
 have hm2 : bef * aft ≤ 100000000 * 100000000 := Int.mul_le_mul h1.2 h2.2 h2.1 (by omega)
 have HW2 := Lib.hid (IntWalk.wrap64_in (bef * aft) (by omega))
 clear hm hm2
 unfold deadP
 go_enter Tryz.func123, Tryz.ntmps123
 go_wp2
 go_ret
 exact ⟨by rw [HW2.out] <;> rfl, (Ext.refl W).alloc _⟩
theorem enters_dead : ∀ args w, (callFunc 123 args).run Tryz.prog w = .ok (.enter 123 args) w := enters_of Tryz.func123 (by kernel_rfl) rfl
/-- Pages whose numbers are small. -/
def SmallP (r : List Pg) : Prop := ∀ p, p ∈ r → (0 ≤ p.bef ∧ p.bef ≤ 100000000) ∧ (0 ≤ p.aft ∧ p.aft ≤ 100000000)
/-- The place of the first page that is dead, or -1. -/
def FirstDead (r : List Pg) (W : World) (e : Ending) (w' : World) : Prop := ∃ n : Int, e = .returned (.int .i64 n) ∧ Ext W w' ∧ ((n = -1 ∧ ∀ p, p ∈ r → deadP p = false) ∨ ∃ k : Nat, n = k ∧ k < r.length ∧ (∀ p, p ∈ r.take k → deadP p = false) ∧ ∀ p, r[k]? = some p → deadP p = true)
set_option maxRecDepth 100000 in
theorem indexDead_any (v : Value) (lo hi : Nat) (r : List Pg) (W : World) (h : PgRow W lo hi v r) (hs : SmallP r) (hl : r.length ≤ 4000) :
 Calls Tryz.prog 152 #[v, .func (.func 123) #[] #[]] W (FirstDead r W) := by
 obtain ⟨a, c, rfl, h1, h2⟩ := owns_slice h.own
 have H := Lib.hid h
 have HS := Lib.hid hs
 have ef := enters_dead
 clear h hs
 go_enter Tryz.func152, Tryz.ntmps152
 go_wp2
 go_loopw [8] (fun i wr => ∃ k : Nat, k ≤ r.length ∧ i = .int .i64 k ∧ Hid (∀ p, p ∈ r.take k → deadP p = false) ∧ Ext W wr) (fun i _ => r.length - (intOf i).toNat)
 case atStart => exact ⟨0, Nat.zero_le _, rfl, by simp [Hid], Ext.refl _⟩
 case round =>
  obtain ⟨k, hk, rfl, hno, hx⟩ := hrel
  by_cases hlt : k < r.length
  ·have hp := H.out.ext hx
   have hpo := hp.own
   obtain ⟨g, _, hga, _⟩ := owns_some hpo (by omega)
   have hag : a = some ⟨g, 0, none⟩ := by cases hga; rfl
   subst hag
   clear hga
   obtain ⟨p, hpk⟩ : ∃ p, r[k]? = some p := ⟨r[k], by simp [hlt]⟩
   have hpm := List.mem_of_getElem? hpk
   have hat := pgCells_at hpk
   have x0 : wr.cell? ⟨g, k * 3, none⟩ = some p.v := by rw [hpo.cellAt _ (by omega)]; exact hat.1
   have x1 : wr.cell? ⟨g, k * 3 + 1, none⟩ = some (.int .i64 p.bef) := by rw [hpo.cellAt _ (by omega)]; exact hat.2.1
   have x2 : wr.cell? ⟨g, k * 3 + 2, none⟩ = some (.int .i64 p.aft) := by rw [hpo.cellAt _ (by omega)]; exact hat.2.2
   obtain ⟨pa, pc, hpv, _, _, _⟩ := (hp.mean p hpm).open
   have hsm := HS.out p hpm
   have HD := Lib.hid (fun W' => dead_any p W' ⟨_, _, _, hpv⟩ hsm.1 hsm.2)
   rw [hpv] at x0 HD
   have HPK := Lib.hid hpk
   clear hat hpo hp hpk hsm hpv
   cases hd : deadP p with
   | true =>
    rw [hd] at HD
    have hf : FirstDead r W (.returned (.int .i64 k)) wr := ⟨k, rfl, hx, .inr ⟨k, rfl, hlt, hno.out, fun q hq => by rw [HPK.out] at hq; cases hq; exact hd⟩⟩
    have HFF := Lib.hid (fun w' (h : Ext wr w') => (fun (x : FirstDead r W (.returned (.int .i64 k)) wr) => (show FirstDead r W (.returned (.int .i64 k)) w' from by obtain ⟨n, e, h1, h2⟩ := x; exact ⟨n, e, h1.trans h, h2⟩)) hf)
    clear hd hf
    go_wp2_with (refine Calls.mono (HD.out _) ?_; rintro e w' ⟨rfl, hx'⟩)
    go_ret
    exact HFF.out _ hx'
   | false =>
    rw [hd] at HD
    have HN : Hid (∀ p, p ∈ r.take (k + 1) → deadP p = false) := by
     unfold Hid; intro q hq
     rw [List.take_add_one, HPK.out] at hq
     rcases List.mem_append.1 hq with hq | hq
     ·exact hno.out q hq
     ·simp at hq; subst hq; exact hd
    clear hd
    go_wp2_with (refine Calls.mono (HD.out _) ?_; rintro e w' ⟨rfl, hx'⟩)
    go_roundw
    case rel => exact ⟨k + 1, by omega, by go_num, HN, hx.trans hx'⟩
    case measure => simp [intOf]; omega
  ·have hf : FirstDead r W (.returned (.int .i64 (-1))) wr := ⟨-1, rfl, hx, .inl ⟨rfl, by have := hno.out; rw [List.take_of_length_le (by omega)] at this; exact this⟩⟩
   have HFF := Lib.hid hf
   clear hf
   go_wp2
   go_ret
   exact HFF.out
/-! ### Clearing -/
theorem page_zero : ∀ w, (zeroValue 100).run Tryz.prog w = .ok (.agg #[.slice none 0 0, .int .i64 0, .int .i64 0]) w := by intro w; kernel_rfl
def clearL (n : Nat) : List Value := (Builtin.zeroCells (Value.cells (.agg #[.slice none 0 0, .int .i64 0, .int .i64 0])) n).toList
theorem run_clear_pages (w : World) (ty : TypeId) (b o n c : Nat) (hc : ∀ j, j < n * 3 → (w.cell? ⟨b, o + j, none⟩).isSome = true) (hf : ∀ j, j < n * 3 → w.frozen? ⟨b, o + j, none⟩ = false) :
 (Builtin.clear_ #[98] ty #[.slice (some ⟨b, o, none⟩) n c]).run Tryz.prog w = .ok (.tuple #[]) (w.setCells b o (clearL n)) := by
 unfold clearL
 rcases Nat.eq_zero_or_pos n with rfl | hn
 ·have h0 : (Builtin.zeroCells (Value.cells (.agg #[.slice none 0 0, .int .i64 0, .int .i64 0])) 0).toList = [] := by simp [Builtin.zeroCells]
  rw [h0]
  simp [Builtin.clear_, run_underlying Tryz.underlying98]
  rfl
 ·have hl : (Builtin.zeroCells (Value.cells (.agg #[.slice none 0 0, .int .i64 0, .int .i64 0])) n).toList.length = n * 3 := by
   simp [Builtin.zeroCells]; rfl
  have hst := run_storeCells_cells (P := Tryz.prog) b o (Builtin.zeroCells (Value.cells (.agg #[.slice none 0 0, .int .i64 0, .int .i64 0])) n).toList 0 w (by rw [hl]; simpa using hc) (by rw [hl]; simpa using hf) (by
   intro v hv
   simp only [Builtin.zeroCells, Array.toList_map, List.mem_map] at hv
   obtain ⟨i, _, rfl⟩ := hv
   have h3 : (Value.cells (.agg #[.slice none 0 0, .int .i64 0, .int .i64 0])).size = 3 := rfl
   rw [h3]
   have hm : i % 3 = 0 ∨ i % 3 = 1 ∨ i % 3 = 2 := by omega
   rcases hm with h | h | h <;> rw [h] <;> rfl)
  simp only [Nat.add_zero] at hst
  obtain ⟨m, rfl⟩ : ∃ m, n = m + 1 := ⟨n - 1, by omega⟩
  simp [Builtin.clear_, run_underlying Tryz.underlying98, hst]
theorem owns_setCells {base g n cap size : Nat} {e : TypeId} : ∀ (L : List Value) (o : Nat) {w : World} {xs : List Value}, w.ownsRow base e size (.slice (some ⟨g, 0, none⟩) n cap) n xs →
 ∃ ys, (w.setCells g o L).ownsRow base e size (.slice (some ⟨g, 0, none⟩) n cap) n ys ∧ ys.take o = xs.take o
 | [], o, w, xs, h => ⟨xs, h, rfl⟩
 | u :: L, o, w, xs, h => by
  obtain ⟨ys, h1, h2⟩ := owns_setCells L (o + 1) (h.stored o u).1
  refine ⟨ys, h1, ?_⟩
  have := congrArg (List.take o) h2
  rw [List.take_take, List.take_take, Nat.min_eq_left (by omega)] at this
  rw [this, List.take_set_of_le (Nat.le_refl _)]
theorem touch_setCells {g : Nat} : ∀ (L : List Value) (o : Nat) (w : World), Touch (fun b => b = g) w (w.setCells g o L)
 | [], _, w => Touch.refl _ w
 | u :: L, o, _ => (Touch.setCell (M := fun b => b = g) u rfl).trans (touch_setCells L (o + 1) _)
theorem owns_prefix {w : World} {base g n m cap size : Nat} {e : TypeId} {xs : List Value} (h : w.ownsRow base e size (.slice (some ⟨g, 0, none⟩) n cap) n xs) (hm : m ≤ n) : w.ownsRow base e size (.slice (some ⟨g, 0, none⟩) m cap) m (xs.take (m * size)) := by
 obtain ⟨h1, ⟨h2, _⟩ | ⟨g', cap', cur, h2, hb, hg, hn, hc, hs, ht⟩⟩ := h
 ·cases h2
 ·cases h2
  have hms : m * size ≤ n * size := Nat.mul_le_mul_right _ hm
  refine ⟨by rw [List.length_take_of_le (by omega)], .inr ⟨g, cap, cur, rfl, hb, hg, by omega, hc, hs, ?_⟩⟩
  rw [← ht, List.take_take, Nat.min_eq_left hms]
/-- A page is put into a place of its row. -/
theorem PgRow.put {W : World} {lo hi g c N : Nat} {r : List Pg} {i : Nat} {p : Pg} (hN : N = r.length) (h : PgRow W lo hi (.slice (some ⟨g, 0, none⟩) N c) r) (hl : i < r.length) (hp : p ∈ r) :
 PgRow (((W.setCell ⟨g, i * 3, none⟩ p.v).setCell ⟨g, i * 3 + 1, none⟩ (.int .i64 p.bef)).setCell ⟨g, i * 3 + 2, none⟩ (.int .i64 p.aft)) lo hi (.slice (some ⟨g, 0, none⟩) N c) (r.set i p) ∧
 Touch (fun b => b = g) W (((W.setCell ⟨g, i * 3, none⟩ p.v).setCell ⟨g, i * 3 + 1, none⟩ (.int .i64 p.bef)).setCell ⟨g, i * 3 + 2, none⟩ (.int .i64 p.aft)) := by
 subst hN
 have ht : Touch (fun b => b = g) W (((W.setCell ⟨g, i * 3, none⟩ p.v).setCell ⟨g, i * 3 + 1, none⟩ (.int .i64 p.bef)).setCell ⟨g, i * 3 + 2, none⟩ (.int .i64 p.aft)) := ((Touch.setCell (M := fun b => b = g) _ rfl).trans (Touch.setCell _ rfl)).trans (Touch.setCell _ rfl)
 have hst := (((h.own.stored (i * 3) p.v).1.stored (i * 3 + 1) (.int .i64 p.bef)).1.stored (i * 3 + 2) (.int .i64 p.aft)).1
 rw [pgCells_set hl] at hst
 have hmem : ∀ q, q ∈ r.set i p → q ∈ r := fun q hq => by
  rcases List.mem_or_eq_of_mem_set hq with hq | rfl
  ·exact hq
  ·exact hp
 refine ⟨⟨by rw [List.length_set]; exact hst, h.blk, fun q hq => ?_, fun q hq a m k e => h.off q (hmem q hq) a m k e⟩, ht⟩
 exact ints_touch (h.mean q (hmem q hq)) ht (fun a m k e hb => (h.off q (hmem q hq) a m k e).2.2 (by rw [hb]; rfl))
/-- What DeleteFunc has done when j pages are looked at and i are kept. -/
structure DelI (r : List Pg) (i j : Nat) (c : List Pg) : Prop where
 len : c.length = r.length
 ij : i < j
 jn : j ≤ r.length
 kept : c.take i = (r.take j).filter fun p => !deadP p
 rest : c.drop j = r.drop j
 mem : ∀ p, p ∈ c → p ∈ r
theorem DelI.start {r : List Pg} {k : Nat} (hk : k < r.length) (h1 : ∀ p, p ∈ r.take k → deadP p = false) (h2 : ∀ p, r[k]? = some p → deadP p = true) : DelI r k (k + 1) r := by
 refine ⟨rfl, by omega, by omega, ?_, rfl, fun _ h => h⟩
 rw [List.take_add_one, List.getElem?_eq_getElem hk, Option.toList_some, List.filter_append, List.filter_eq_self.2 (fun p hp => by rw [h1 p hp]; rfl)]
 have := h2 _ (List.getElem?_eq_getElem hk)
 simp [this]
theorem DelI.at {r c : List Pg} {i j : Nat} (h : DelI r i j c) {p : Pg} (hp : r[j]? = some p) : c[j]? = some p := by
 have := congrArg (fun l => l[0]?) h.rest
 simp only [List.getElem?_drop, Nat.add_zero] at this
 rw [this, hp]
theorem DelI.skip {r c : List Pg} {i j : Nat} (h : DelI r i j c) {p : Pg} (hp : r[j]? = some p) (hd : deadP p = true) : DelI r i (j + 1) c := by
 have hj := (List.getElem?_eq_some_iff.1 hp).1
 refine ⟨h.len, by have := h.ij; omega, by omega, ?_, ?_, h.mem⟩
 ·rw [List.take_add_one, hp, Option.toList_some, List.filter_append, ← h.kept]; simp [hd]
 ·have := congrArg (List.drop 1) h.rest
  simpa [List.drop_drop, Nat.add_comm] using this
theorem DelI.keep {r c : List Pg} {i j : Nat} (h : DelI r i j c) {p : Pg} (hp : r[j]? = some p) (hd : deadP p = false) : DelI r (i + 1) (j + 1) (c.set i p) := by
 have hj := (List.getElem?_eq_some_iff.1 hp).1
 have hij := h.ij
 have hl := h.len
 refine ⟨by rw [List.length_set]; exact hl, by omega, by omega, ?_, ?_, fun q hq => ?_⟩
 ·rw [List.take_add_one (l := r), hp, Option.toList_some, List.filter_append, ← h.kept, List.take_add_one, List.getElem?_set_self (by omega), List.take_set_of_le (Nat.le_refl _)]; simp [hd]
 ·rw [List.drop_set_of_lt (by omega)]
  have := congrArg (List.drop 1) h.rest
  simpa [List.drop_drop, Nat.add_comm] using this
 ·rcases List.mem_or_eq_of_mem_set hq with hq | rfl
  ·exact h.mem q hq
  ·exact List.mem_of_getElem? hp
def DelPost (lo hi : Nat) (v : Value) (r : List Pg) (W : World) (e : Ending) (w' : World) : Prop :=
 ∃ (a : Option Addr) (m c : Nat), e = .returned (.slice a m c) ∧ PgRow w' lo hi (.slice a m c) (r.filter fun p => !deadP p) ∧ Touch (fun b => v.ownBlock = some b) W w' ∧ Value.ownBlock (.slice a m c) = v.ownBlock
theorem PgRow.prefix {W : World} {lo hi g c N i : Nat} {r : List Pg} (hN : N = r.length) (h : PgRow W lo hi (.slice (some ⟨g, 0, none⟩) N c) r) (L : List Value) (hi' : i ≤ r.length) :
 PgRow (W.setCells g (i * 3) L) lo hi (.slice (some ⟨g, 0, none⟩) i c) (r.take i) := by
 subst hN
 have ht := touch_setCells (g := g) L (i * 3) W
 obtain ⟨ys, h1, h2⟩ := owns_setCells L (i * 3) h.own
 have h3 := owns_prefix h1 hi'
 have h4 : (pgCells r).take (i * 3) = pgCells (r.take i) := by
  have e : pgCells r = pgCells (r.take i) ++ pgCells (r.drop i) := by unfold pgCells; rw [← List.flatMap_append, List.take_append_drop]
  have hl := pgCells_len (r.take i)
  rw [List.length_take_of_le hi'] at hl
  rw [e, List.take_append_of_le_length (by omega), List.take_of_length_le (by omega)]
 rw [h2, h4] at h3
 refine ⟨by rw [List.length_take_of_le hi']; exact h3, h.blk, fun q hq => ?_, fun q hq a m k e => h.off q (List.mem_of_mem_take hq) a m k e⟩
 have hq' := List.mem_of_mem_take hq
 exact ints_touch (h.mean q hq') ht (fun a m k e hb => (h.off q hq' a m k e).2.2 (by rw [hb]; rfl))
set_option maxRecDepth 100000 in
set_option maxHeartbeats 4000000 in
theorem delete_any (v : Value) (lo hi : Nat) (r : List Pg) (W : World) (h : PgRow W lo hi v r) (hs : SmallP r) (hl : r.length ≤ 4000) :
 Calls Tryz.prog 122 #[v, .func (.func 123) #[] #[]] W (DelPost lo hi v r W) := by
 have HI := Lib.hid (indexDead_any v lo hi r W h hs hl)
 obtain ⟨a, c, rfl, h1, h2⟩ := owns_slice h.own
 have H := Lib.hid h
 have HS := Lib.hid hs
 have ef := enters_dead
 clear h hs
 go_enter Tryz.func122, Tryz.ntmps122
 go_upto_region 2 with (go_at_call 152; refine (HI.out).mono ?_; rintro e w1 ⟨n, rfl, hx, hn⟩)
 rcases hn with ⟨rfl, hall⟩ | ⟨k, rfl, hk, hno, hyes⟩
 ·have hf : DelPost lo hi (.slice a r.length c) r W (.returned (.slice a r.length c)) w1 := ⟨a, r.length, c, rfl, by rw [List.filter_eq_self.2 (fun p hp => by rw [hall p hp]; rfl)]; exact H.out.ext hx, Touch.of_ext hx, rfl⟩
  have HF := Lib.hid hf
  clear hf hall
  go_wp2
  go_ret
  exact HF.out
 ·obtain ⟨g, _, hga, _⟩ := owns_some H.out.own (by omega)
  have hag : a = some ⟨g, 0, none⟩ := by cases hga; rfl
  subst hag
  clear hga
  have hD := DelI.start hk hno hyes
  have HD := Lib.hid hD
  have HX := Lib.hid hx
  have t1 : ((k : Int) == -1) = false := by rw [beq_eq_false_iff_ne]; omega
  clear hno hyes hD hx
  go_wp2
  go_loopw [5, 6] (fun x y wr => ∃ (i j : Nat) (cc : List Pg), x = .int .i64 i ∧ y = .int .i64 j ∧ DelI r i j cc ∧ PgRow wr lo hi (.slice (some ⟨g, 0, none⟩) r.length c) cc ∧ Touch (fun b => b = g) W wr) (fun _ y _ => r.length - (intOf y).toNat)
  case atStart => exact ⟨k, k + 1, r, rfl, by go_num, HD.out, H.out.ext HX.out, Touch.of_ext HX.out⟩
  case round =>
   obtain ⟨i, j, cc, rfl, rfl, hd, hp, ht⟩ := hrel
   have hij := hd.ij
   have hjn := hd.jn
   have hcl := hd.len
   by_cases hlt : j < r.length
   ·obtain ⟨p, hpj⟩ : ∃ p, r[j]? = some p := ⟨r[j], by simp [hlt]⟩
    have hpm := List.mem_of_getElem? hpj
    have hpo := hp.own
    rw [hcl] at hpo
    have hcj := hd.at hpj
    have hat := pgCells_at hcj
    have hcm := List.mem_of_getElem? hcj
    obtain ⟨q, hqi⟩ : ∃ q, cc[i]? = some q := ⟨cc[i], by simp [show i < cc.length by omega]⟩
    have hai := pgCells_at hqi
    have x0 : wr.cell? ⟨g, j * 3, none⟩ = some p.v := by rw [hpo.cellAt _ (by omega)]; exact hat.1
    have x1 : wr.cell? ⟨g, j * 3 + 1, none⟩ = some (.int .i64 p.bef) := by rw [hpo.cellAt _ (by omega)]; exact hat.2.1
    have x2 : wr.cell? ⟨g, j * 3 + 2, none⟩ = some (.int .i64 p.aft) := by rw [hpo.cellAt _ (by omega)]; exact hat.2.2
    have y0 : wr.cell? ⟨g, i * 3, none⟩ = some q.v := by rw [hpo.cellAt _ (by omega)]; exact hai.1
    have y1 : wr.cell? ⟨g, i * 3 + 1, none⟩ = some (.int .i64 q.bef) := by rw [hpo.cellAt _ (by omega)]; exact hai.2.1
    have y2 : wr.cell? ⟨g, i * 3 + 2, none⟩ = some (.int .i64 q.aft) := by rw [hpo.cellAt _ (by omega)]; exact hai.2.2
    have f0 := hpo.frozenAt (i * 3)
    have f1 := hpo.frozenAt (i * 3 + 1)
    have f2 := hpo.frozenAt (i * 3 + 2)
    obtain ⟨pa, pc, hpv, _, _, _⟩ := (hp.mean p hcm).open
    have hsm := HS.out p hpm
    have HDD := Lib.hid (fun W' => dead_any p W' ⟨_, _, _, hpv⟩ hsm.1 hsm.2)
    have hil : (i : Int) < (r.length : Int) := by omega
    have hil0 : (0 : Int) ≤ (i : Int) := by omega
    have HPV := Lib.hid hpv
    rw [hpv] at x0 HDD
    have HSL := Lib.hid (fun w' (hz : Ext wr w') => (hp.ext hz).put (i := i) (p := p) (by omega) (by omega) hcm)
    have hgl := (World.ownsRow.lt hpo g rfl).2
    have HF := Lib.hid (fun w' (hz : Ext wr w') => (⟨hz.cell y0, hz.cell y1, hz.cell y2, (hz.frozen (a := ⟨g, i * 3, none⟩) hgl).trans f0, (hz.frozen (a := ⟨g, i * 3 + 1, none⟩) hgl).trans f1, (hz.frozen (a := ⟨g, i * 3 + 2, none⟩) hgl).trans f2⟩ : _ ∧ _ ∧ _ ∧ _ ∧ _ ∧ _))
    have HPP := Lib.hid hp
    have HTT := Lib.hid ht
    have HDI := Lib.hid hd
    have HPJ := Lib.hid hpj
    clear hp ht hd hpo hat hai y0 y1 y2 f0 f1 f2 hqi hcj hpj hpv hsm
    go_upto_region 8 with fail
    obtain ⟨WZ, hWZ⟩ : ∃ WZ, WZ = wr.alloc (.cells #[.slice pa p.l.length pc, .int .i64 p.bef, .int .i64 p.aft] 100) := ⟨_, rfl⟩
    have hxz : Ext wr WZ := by rw [hWZ]; exact (Ext.refl wr).alloc _
    have z0 : WZ.cell? ⟨wr.heap.size, 0, none⟩ = some (.slice pa p.l.length pc) := by rw [hWZ]; go_simp
    have z1 : WZ.cell? ⟨wr.heap.size, 1, none⟩ = some (.int .i64 p.bef) := by rw [hWZ]; go_simp
    have z2 : WZ.cell? ⟨wr.heap.size, 2, none⟩ = some (.int .i64 p.aft) := by rw [hWZ]; go_simp
    rw [← hWZ]
    have HXZ := Lib.hid hxz
    clear x0 x1 x2 hWZ hxz
    cases hdp : deadP p with
    | true =>
     rw [hdp] at HDD
     have HN := Lib.hid (HDI.out.skip HPJ.out hdp)
     clear hdp
     go_wp2_with (refine Calls.mono (HDD.out _) ?_; rintro e w' ⟨rfl, hx'⟩)
     go_roundw
     case rel => exact ⟨i, j + 1, cc, rfl, by go_num, HN.out, HPP.out.ext (HXZ.out.trans hx'), HTT.out.trans (Touch.of_ext (HXZ.out.trans hx'))⟩
     case measure => simp [intOf]; omega
    | false =>
     rw [hdp] at HDD
     have HN := Lib.hid (HDI.out.keep HPJ.out hdp)
     clear hdp
     go_wp2_with (refine Calls.mono (HDD.out _) ?_; rintro e w' ⟨rfl, hx'⟩; replace z0 := hx'.cell z0; replace z1 := hx'.cell z1; replace z2 := hx'.cell z2; obtain ⟨y0, y1, y2, f0, f1, f2⟩ := HF.out _ (HXZ.out.trans hx'); have HX' := Lib.hid hx'; clear hx')
     have hS := HSL.out w' (HXZ.out.trans HX'.out)
     rw [HPV.out] at hS
     go_roundw
     case rel => exact ⟨i + 1, j + 1, cc.set i p, by go_num, by go_num, HN.out, hS.1, (HTT.out.trans (Touch.of_ext (HXZ.out.trans HX'.out))).trans hS.2⟩
     case measure => simp [intOf]; omega
   ·have hjr : j = r.length := by omega
    have hpo := hp.own
    rw [hcl] at hpo
    have hpf := hp.prefix (i := i) (by omega) (clearL (r.length - i)) (by omega)
    have hkp := hd.kept
    rw [show r.take j = r from List.take_of_length_le (by omega)] at hkp
    rw [hkp] at hpf
    have hcl2 : ∀ ty, (Builtin.clear_ #[98] ty #[.slice (some ⟨g, i * 3, none⟩) (r.length - i) (c - i)]).run Tryz.prog wr = .ok (.tuple #[]) (wr.setCells g (i * 3) (clearL (r.length - i))) := fun ty =>
     run_clear_pages wr ty g (i * 3) _ _ (fun q hq => by
      rw [hpo.cellAt _ (by omega)]
      have := pgCells_len cc
      rw [List.getElem?_eq_getElem (by omega)]; rfl) (fun q hq => hpo.frozenAt _)
    have hf : DelPost lo hi (.slice (some ⟨g, 0, none⟩) r.length c) r W (.returned (.slice (some ⟨g, 0, none⟩) i c)) (wr.setCells g (i * 3) (clearL (r.length - i))) :=
     ⟨some ⟨g, 0, none⟩, i, c, rfl, hpf, (ht.trans (touch_setCells _ _ _)).mono (fun b hb => by rw [hb]; rfl), rfl⟩
    have HFN := Lib.hid hf
    have hil : (i : Int) < (r.length : Int) := by omega
    have hic : (i : Int) ≤ (c : Int) := by omega
    have hic2 : (i == c) = false := by rw [beq_eq_false_iff_ne]; omega
    clear hp ht hd hpo hpf hkp hf hjr
    generalize clearL (r.length - i) = L at *
    go_wp2
    go_ret
    exact HFN.out
end Go.Proofs.YtokananogogjaaaGreatDoor
