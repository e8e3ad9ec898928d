/- What could collects: plain facts; rows that the call owns, left as they are by an iterator's own steps. -/
import Derived.Test.YtiodjapdiflphaaGreatDoorOrgs
import Derived.Test.YtiodjapdiflphaaGreatDoorNode
namespace Go.Proofs.YtiodjapdiflphaaGreatDoor
open Go.RowKit
/-! ### In plain Lean -/
theorem rev_ind {α : Type} {P : List α → Prop} (h0 : P []) (h1 : ∀ l x, P l → P (l ++ [x])) (l : List α) : P l := by
 rw [← List.reverse_reverse l]
 induction l.reverse with
 | nil => exact h0
 | cons x t ih => rw [List.reverse_cons]; exact h1 _ _ ih
def addNew {α : Type} [DecidableEq α] (out : List α) (o : α) : List α := if o ∈ out then out else out ++ [o]
/-- The first of each, in the order in which they come. -/
def firsts {α : Type} [DecidableEq α] (l : List α) : List α := l.foldl addNew []
theorem firsts_push {α : Type} [DecidableEq α] (l : List α) (o : α) : firsts (l ++ [o]) = addNew (firsts l) o := by unfold firsts; rw [List.foldl_append]; rfl
theorem firsts_mem {α : Type} [DecidableEq α] (l : List α) (o : α) : o ∈ firsts l ↔ o ∈ l := by
 induction l using rev_ind with
 | h0 => simp [firsts]
 | h1 l x ih =>
  rw [firsts_push]
  unfold addNew
  by_cases h : x ∈ firsts l
  ·rw [if_pos h, ih, List.mem_append, List.mem_singleton]
   exact ⟨.inl, fun hh => hh.elim id (fun e => e ▸ ih.1 (e ▸ h))⟩
  ·rw [if_neg h, List.mem_append, List.mem_append, ih]
theorem firsts_nodup {α : Type} [DecidableEq α] (l : List α) : (firsts l).Nodup := by
 induction l using rev_ind with
 | h0 => simp [firsts]
 | h1 l x ih =>
  rw [firsts_push]
  unfold addNew
  by_cases h : x ∈ firsts l
  ·rw [if_pos h]; exact ih
  ·rw [if_neg h, List.nodup_append]
   exact ⟨ih, by simp, fun a ha b hb => by rw [List.mem_singleton] at hb; exact fun e => h (hb ▸ e ▸ ha)⟩
theorem truAt_mem {b : Book} {s : Sack} {f : Nat} {x y : State} (h : y ∈ truthsFrom b s (f + 1) x) : ∃ o z, o ∈ orgsAt b s x ∧ nextsOf b s x o = some z ∧ y ∈ truthsFrom b s f z := by
 rw [truthsFrom_succ, List.mem_flatMap] at h
 obtain ⟨o, ho, hy⟩ := h
 unfold truAt at hy
 cases hn : nextsOf b s x o with
 | none => rw [hn] at hy; cases hy
 | some z => rw [hn] at hy; exact ⟨o, z, ho, hn, hy⟩
/-- A truth has an origin for each shell, out of those that the shell can have. -/
theorem truths_orgs {b : Book} {s : Sack} (hS : SackB s) : ∀ (f : Nat) (x y : State), StateB b x → x.org.length + f = s.shells.length → y ∈ truthsFrom b s f x →
  StateB b y ∧ y.org.length = s.shells.length ∧ ∀ i, orgAt y i = orgAt x i ∧ i < x.org.length ∨ (x.org.length ≤ i ∧ (i < s.shells.length → orgAt y i ∈ originsOf b (shellAt s i).rings.length))
 | 0, x, y, hx, hl, hy => by
  rw [show truthsFrom b s 0 x = [x] from rfl, List.mem_singleton] at hy
  subst hy
  refine ⟨hx, by omega, fun i => ?_⟩
  by_cases hi : i < y.org.length
  ·exact .inl ⟨rfl, hi⟩
  ·exact .inr ⟨by omega, fun h => by omega⟩
 | f + 1, x, y, hx, hl, hy => by
  obtain ⟨o, z, ho, hz, hyz⟩ := truAt_mem hy
  have hsb := StateB.with hx (by have := hS.n2; omega) (nexts_with hz)
  obtain ⟨h1, h2, h3⟩ := truths_orgs hS f z y hsb.1 (by rw [hsb.2]; simp; omega) hyz
  refine ⟨h1, h2, fun i => ?_⟩
  have hzl : z.org.length = x.org.length + 1 := by rw [hsb.2]; simp
  by_cases hi : i < x.org.length
  ·left
   rcases h3 i with h | h
   ·refine ⟨h.1.trans ?_, hi⟩
    unfold orgAt
    rw [hsb.2, List.getD_eq_getElem?_getD, List.getD_eq_getElem?_getD, List.getElem?_append_left hi]
   ·omega
  ·right
   refine ⟨by omega, fun hs => ?_⟩
   rcases h3 i with h | h
   ·have he : i = x.org.length := by omega
    rw [h.1]
    unfold orgAt
    rw [hsb.2, he, List.getD_eq_getElem?_getD, List.getElem?_append_right (Nat.le_refl _)]
    simpa [orgsAt] using ho
   ·exact h.2 hs
theorem truth_facts {b : Book} {s : Sack} (hB : BookB b) (hS : SackB s) {x : State} (h : x ∈ truthsOf b s) : StateB b x ∧ x.org.length = s.shells.length ∧ ∀ i, i < s.shells.length → orgAt x i ∈ originsOf b (shellAt s i).rings.length := by
 obtain ⟨h1, h2, h3⟩ := truths_orgs hS _ _ _ (StateB.begin hB) (by simp [beginB]) h
 refine ⟨h1, h2, fun i hi => ?_⟩
 rcases h3 i with h4 | h4
 ·have := h4.2; simp [beginB] at this
 ·exact h4.2 hi
theorem originsOf_len {b : Book} (hB : BookB b) (n : Nat) : (originsOf b n).length ≤ 21 := by
 rw [originsOf_length]
 have h1 := hB.n2
 have h2 := hB.y2
 exact Nat.le_trans (Nat.mul_le_mul h1 (show b.years.toNat + 1 - n ≤ 7 by omega)) (by decide)
def couldL (b : Book) (s : Sack) (i k : Nat) : List Org := firsts (((truthsOf b s).take k).map fun x => orgAt x i)
theorem couldL_zero (b : Book) (s : Sack) (i : Nat) : couldL b s i 0 = [] := by simp [couldL, firsts]
theorem couldL_succ {b : Book} {s : Sack} {i k : Nat} {x : State} (h : (truthsOf b s)[k]? = some x) : couldL b s i (k + 1) = addNew (couldL b s i k) (orgAt x i) := by
 unfold couldL; rw [List.take_add_one, h]; simp only [Option.toList_some, List.map_append, List.map_cons, List.map_nil]; exact firsts_push _ _
theorem couldL_len {b : Book} {s : Sack} (hB : BookB b) (hS : SackB s) {i : Nat} (hi : i < s.shells.length) (k : Nat) : (couldL b s i k).length ≤ 21 := by
 refine Nat.le_trans (List.Nodup.length_le_of_subset (l₂ := originsOf b (shellAt s i).rings.length) (firsts_nodup _) ?_) (originsOf_len hB _)
 intro o ho
 have := (firsts_mem _ o).1 ho
 obtain ⟨x, hx, rfl⟩ := List.mem_map.1 this
 exact (truth_facts hB hS (List.mem_of_mem_take hx)).2.2 i hi
theorem originsOf_sorted (b : Book) (n : Nat) : (originsOf b n).Pairwise fun x y => ltO x y = true := by
 unfold originsOf
 rw [List.pairwise_flatMap]
 refine ⟨fun r _ => ?_, ?_⟩
 ·rw [List.pairwise_map]
  exact List.pairwise_lt_range.imp fun h => by simp [ltO]; omega
 ·exact List.pairwise_lt_range.imp fun {r1 r2} h x hx y hy => by
   simp only [List.mem_map] at hx hy
   obtain ⟨_, _, rfl⟩ := hx
   obtain ⟨_, _, rfl⟩ := hy
   simp [ltO]; omega
theorem ltO_irrefl (a : Org) : ltO a a = false := by simp [ltO]
theorem ltO_asymm {a b : Org} (h : ltO a b = true) : ltO b a = false := by simp [ltO] at *; omega
theorem ltO_anti (a b : Org) (h : ltO b a = false) (k : ltO a b = false) : a = b := by
 simp [ltO] at h k; exact Prod.ext (by omega) (by omega)
theorem could_sorted {b : Book} {s : Sack} (hB : BookB b) (hS : SackB s) {i : Nat} (hi : i < s.shells.length) {ys : List Org} (hp : ys.Perm (couldL b s i (truthsOf b s).length)) (hs : ys.Pairwise fun a b => ltO b a = false) : ys = couldOf b s i := by
 have hsrt := originsOf_sorted b (shellAt s i).rings.length
 have hnd : (originsOf b (shellAt s i).rings.length).Nodup := by
  refine hsrt.imp ?_
  intro x y h e
  rw [e, ltO_irrefl] at h; cases h
 have hcd : (couldOf b s i).Nodup := by unfold couldOf; exact List.Pairwise.filter _ hnd
 refine List.Perm.eq_of_pairwise (le := fun a b => ltO b a = false) (fun a b _ _ h k => ltO_anti a b h k) hs ?_ (hp.trans ?_)
 ·unfold couldOf
  exact (hsrt.imp fun h => ltO_asymm h).filter _
 ·refine (List.perm_ext_iff_of_nodup (firsts_nodup _) hcd).2 fun o => ?_
  rw [firsts_mem, List.take_length]
  unfold couldOf
  rw [List.mem_map, List.mem_filter, List.any_eq_true]
  constructor
  ·rintro ⟨x, hx, rfl⟩
   exact ⟨(truth_facts hB hS hx).2.2 i hi, x, hx, by simp⟩
  ·rintro ⟨_, x, hx, h⟩
   exact ⟨x, hx, by simpa using h⟩
/-! ### Rows that are owned -/
theorem owns_quiet {w w' : World} {base : Nat} {e : TypeId} {v : Value} {k m n : Nat} {xs : List Value} (h : w.ownsRow base e k v m xs) (q : Quiet n w w') (hx : ∀ u, u ∈ xs → NB u) (hk : k = 2 ∨ v = .slice none 0 0 ∨ 0 < m ∧ 0 < k) : w'.ownsRow base e k v m xs := by
 obtain ⟨h1, h2 | ⟨g, cap, cur, rfl, hg, hh, hn, hc, hs, ht⟩⟩ := h
 ·exact ⟨h1, .inl h2⟩
 ·refine ⟨h1, .inr ⟨g, cap, cur, rfl, hg, q.keep _ _ hh (.inr ?_), hn, hc, hs, ht⟩⟩
  simp only [keeps]
  split
  ·rename_i bo hcur
   exfalso
   have hl : cur.size = 1 := by rw [← Array.length_toList, hcur]; rfl
   rcases hk with rfl | hk | ⟨hm, hk⟩
   ·omega
   ·cases hk
   ·have : 0 < m * k := Nat.mul_pos hm hk
    cases xs with
    | nil => simp at h1; omega
    | cons u us =>
     rw [hcur] at ht
     obtain ⟨j, hj⟩ : ∃ j, m * k = j + 1 := ⟨m * k - 1, by omega⟩
     rw [hj] at ht
     simp at ht
     exact hx u (by simp) bo ht.1.symm
  ·rfl
end Go.Proofs.YtiodjapdiflphaaGreatDoor
/- could: the origins of a shell over all truths. -/
namespace Go.Proofs.YtiodjapdiflphaaGreatDoor
open Go.RowKit
attribute [local go_sem] Oper.semAt_some
/-- A row that grows: its cell, and where it lies. -/
structure ColI (w : World) (c : Nat) (e : TypeId) (size n : Nat) (cs : List Value) (ov : Value) (O : Nat → Prop) (W : World) : Prop where
 ext : Ext w W
 o : W.cell? ⟨c, 0, none⟩ = some ov
 f : W.frozen? ⟨c, 0, none⟩ = false
 own : W.ownsRow (c + 1) e size ov n cs
 low : ∀ j, O j ↔ j = c ∨ ov.ownBlock = some j
theorem owns_nb {w : World} {base : Nat} {e : TypeId} {size : Nat} {v : Value} {n : Nat} {xs : List Value} (h : w.ownsRow base e size v n xs) : NB v := by
 obtain ⟨_, ⟨rfl, _⟩ | ⟨g, cap, cur, rfl, _⟩⟩ := h <;> exact NB.slice _ _ _
theorem ColI.quiet {w : World} {c : Nat} {e : TypeId} {size m : Nat} {cs : List Value} {ov : Value} {O : Nat → Prop} {W W' : World} {n : Nat} (h : ColI w c e size m cs ov O W) (q : Quiet n W W') (hn : w.heap.size ≤ n) (hc : ∀ u, u ∈ cs → NB u) (hk : size = 2 ∨ ov = .slice none 0 0 ∨ 0 < m ∧ 0 < size) : ColI w c e size m cs ov O W' :=
 ⟨h.ext.quiet hn q, q.cell h.o (owns_nb h.own), (q.frozen h.o (owns_nb h.own)).trans h.f, owns_quiet h.own q hc hk, h.low⟩
theorem ColI.ext' {w : World} {c : Nat} {e : TypeId} {size m : Nat} {cs : List Value} {ov : Value} {O : Nat → Prop} {W W' : World} (h : ColI w c e size m cs ov O W) (q : Ext W W') : ColI w c e size m cs ov O W' :=
 ⟨h.ext.trans q, q.cell h.o, (q.frozen (lt_of_cell h.o)).trans h.f, owns_ext h.own q, h.low⟩
/-- A push: the cell is not touched by the append; then it holds the new row. -/
theorem ColI.push {w : World} {c : Nat} {e : TypeId} {size m : Nat} {cs us : List Value} {ov : Value} {O : Nat → Prop} {W w2 w5 : World} {ds : Array Value} {e' : TypeId} {g cap : Nat} (h : ColI w c e size m cs ov O W) (hwc : w.heap.size ≤ c) (q : Ext W w2)
  (hown5 : w5.ownsRow (c + 1) e size (.slice (some ⟨g, 0, none⟩) (m + 1) cap) (m + 1) us) (hg5 : (w2.alloc (.cells ds e')).grownBy w5 ov.ownBlock) (hloc : ov.ownBlock = some g ∨ g = w2.heap.size + 1) :
  (w5.cell? ⟨c, 0, none⟩ = some ov ∧ w5.frozen? ⟨c, 0, none⟩ = false) ∧ Touch O W (w5.setCell ⟨c, 0, none⟩ (.slice (some ⟨g, 0, none⟩) (m + 1) cap)) ∧
  (∀ j, j = c ∨ j = g → (O j ∨ W.heap.size ≤ j) ∧ j < (w5.setCell ⟨c, 0, none⟩ (.slice (some ⟨g, 0, none⟩) (m + 1) cap)).heap.size) ∧
  ColI w c e size (m + 1) us (.slice (some ⟨g, 0, none⟩) (m + 1) cap) (fun j => j = c ∨ j = g) (w5.setCell ⟨c, 0, none⟩ (.slice (some ⟨g, 0, none⟩) (m + 1) cap)) := by
 have hsz := q.size
 have hcl := lt_of_cell h.o
 have hb : ∀ k, ov.ownBlock = some k → c + 1 ≤ k := fun k hk => owns_block h.own k hk
 have nb : ¬ ov.ownBlock = some c := fun hk => by have := hb _ hk; omega
 have hx2 : Ext W (w2.alloc (.cells ds e')) := q.alloc _
 have hT : Touch (fun k => ov.ownBlock = some k) W w5 := (Touch.of_ext hx2).trans (Touch.grown hg5 (fun k hk => hk))
 have p0 := hT.cell h.o nb
 have p1 := (hT.frozen h.o nb).trans h.f
 have hTs : Touch O W (w5.setCell ⟨c, 0, none⟩ (.slice (some ⟨g, 0, none⟩) (m + 1) cap)) := (hT.mono (fun k hk => (h.low k).2 (.inr hk))).trans (Touch.setCell _ ((h.low c).2 (.inl rfl)))
 have hgb := owns_block hown5 g rfl
 have hgl := (World.ownsRow.lt hown5 g rfl).2
 have hs5 : (w5.setCell ⟨c, 0, none⟩ (.slice (some ⟨g, 0, none⟩) (m + 1) cap)).heap.size = w5.heap.size := by simp [World.setCell]
 refine ⟨⟨p0, p1⟩, hTs, fun j hj => ?_, ⟨?_, by go_simp, by go_simp, ?_, fun j => ?_⟩⟩
 ·rw [hs5]
  rcases hj with rfl | rfl
  ·exact ⟨.inl ((h.low _).2 (.inl rfl)), by have := lt_of_cell p0; exact this⟩
  ·refine ⟨?_, hgl⟩
   rcases hloc with hl | hl
   ·exact .inl ((h.low _).2 (.inr hl))
   ·exact .inr (by omega)
 ·refine Touch.ext h.ext hTs (fun j hj => ?_)
  rcases (h.low j).1 hj with rfl | hj
  ·exact hwc
  ·have := hb _ hj; omega
 ·exact owns_touch hown5 (Touch.setCell (M := (· = c)) _ rfl) (fun k hk => by have hk' : some g = some k := hk; cases hk'; omega)
 ·exact ⟨fun hj => hj.elim .inl (fun hj => .inr (by rw [hj]; rfl)), fun hj => hj.elim .inl (fun hj => .inr (by have hk' : some g = some j := hj; cases hk'; rfl))⟩
/-- What a round leaves: out holds what was met, in its own row. -/
structure CouldI (b : Book) (s : Sack) (i : Nat) (w : World) (k : Nat) (ov : Value) (O : Nat → Prop) (W : World) : Prop where
 sh : W.cell? ⟨w.heap.size + 1, 0, none⟩ = some (.int .i64 i)
 col : ColI w (w.heap.size + 2) 84 2 (couldL b s i k).length ((couldL b s i k).flatMap pairC) ov O W
theorem could_same {b : Book} {s : Sack} {i k : Nat} {x : State} (h : (truthsOf b s)[k]? = some x) (hm : orgAt x i ∈ couldL b s i k) : couldL b s i (k + 1) = couldL b s i k := by rw [couldL_succ h]; unfold addNew; rw [if_pos hm]
theorem could_more {b : Book} {s : Sack} {i k : Nat} {x : State} (h : (truthsOf b s)[k]? = some x) (hm : ¬ orgAt x i ∈ couldL b s i k) : couldL b s i (k + 1) = couldL b s i k ++ [orgAt x i] := by rw [couldL_succ h]; unfold addNew; rw [if_neg hm]
set_option maxRecDepth 100000 in
set_option maxHeartbeats 8000000 in
theorem could_any (b : Book) (s : Sack) (rv sv tv : Value) (i : Nat) (w : World) (hB : BookB b) (hS : SackB s) (hr : RiversAt w rv b.rivers) (hs : ShellsAt w sv s.shells) (ht : RowOf testC w tv s.tests) (hi : i < s.shells.length) :
  Calls Tryz.prog 49 #[sackV b rv sv tv, .int .i64 i] w fun e w' => ∃ v, e = .returned v ∧ Ext w w' ∧ PairsAt w' v (couldOf b s i) := by
 have HIT := Lib.hid (fun (W1 : World) (h : Ext w W1) (O0 : Nat → Prop) (hO : ∀ j, O0 j → w.heap.size ≤ j) => truths_iter b s rv sv tv w W1 O0 hB hS hr hs ht h hO)
 obtain ⟨ra, rc, rfl, _⟩ := hr.open
 obtain ⟨sa, sc, rfl, _⟩ := hs.open
 obtain ⟨ta, tc, rfl, _⟩ := RowAt.open ht
 have HBS := Lib.hid (And.intro hB hS)
 have HI := Lib.hid hi
 clear hr hs ht
 unfold sackV at HIT ⊢
 refine (callsIn_wide (n := 0)).1 ?_
 refine callsIn_of_wp_marks Tryz.func49 rfl trivial ?_ rfl
 simp only [Tryz.ntmps49, List.size_toArray, List.length_cons, List.length_nil, Nat.reduceAdd, Nat.reduceSub, Array.replicate_succ, Array.replicate_zero, List.push_toArray, List.append_toArray, List.nil_append, List.cons_append]
 gi_wp2
 have h0 : CouldI b s i w 0 (.slice none 0 0) (fun j => j = w.heap.size + 2) (((w.alloc (.cells #[.int .i64 b.years, .slice ra b.rivers.length rc, .slice sa s.shells.length sc, .slice ta s.tests.length tc] 89)).alloc (.cells #[.int .i64 i] 3)).alloc (.cells #[.slice none 0 0] 46)) :=
  ⟨by go_simp, ((((Ext.refl w).alloc _).alloc _).alloc _), by go_simp, by go_simp, by rw [couldL_zero]; exact World.ownsRow_nil _ _ _ _, fun j => ⟨.inl, fun h => h.elim id (fun h => by cases h)⟩⟩
 generalize hW0 : (((w.alloc (.cells #[.int .i64 b.years, .slice ra b.rivers.length rc, .slice sa s.shells.length sc, .slice ta s.tests.length tc] 89)).alloc (.cells #[.int .i64 i] 3)).alloc (.cells #[.slice none 0 0] 46)) = W0 at h0 ⊢
 have hz : W0.heap.size = w.heap.size + 3 := by rw [← hW0]; simp
 clear hW0
 refine wpIn_rangeF (gf := 50) (fi := #[.agg #[.int .i64 b.years, .slice ra b.rivers.length rc, .slice sa s.shells.length sc, .slice ta s.tests.length tc]]) (lb := #[]) (by rfl) enters_truths StIn (fun O O' A x v h k => StIn.less k h) (truthsOf b s) (fun j => j = w.heap.size + 2) ?hM ?hiter
  (fun k O W => ∃ ov, CouldI b s i w k ov O W) (fun _ _ => False) ?hI (fun _ _ _ h _ => h.elim) ⟨_, h0⟩
  (fun k O x v a' W => ∃ (bb : Nat) (xo xw : Value), v = .agg #[xo, xw] ∧ StIn O W x v ∧ W.cell? ⟨bb, 0, none⟩ = some xo ∧ W.cell? ⟨bb, 1, none⟩ = some xw ∧
   ∃ (u0 u1 u2 u4 u7 u8 u9 u10 u11 u12 u13 u14 u15 u16 u17 u18 u19 u20 u21 u22 u23 u24 u25 u26 : Value), a' = { tmps := #[u0, u1, u2, .pointer (some ⟨w.heap.size + 1, 0, none⟩), u4, .pointer (some ⟨w.heap.size + 1 + 1, 0, none⟩), .pointer (some ⟨bb, 0, none⟩), u7, u8, u9, u10, u11, u12, u13, u14, u15, u16, u17, u18, u19, u20, u21, u22, u23, u24, u25, u26], defers := [] }) ?hAx ?hassign ?hbody ?hdone ?hstop
 case hM => intro j hj; omega
 case hiter =>
  intro W1 h1 h2
  exact HIT.out W1 (h0.col.ext.trans h1) _ (fun j hj => by rcases hj with hj | hj <;> omega)
 case hI =>
  rintro k O A B ⟨ov, h⟩ q
  exact ⟨ov, q.cell h.sh (NB.int _ _), h.col.quiet q (by omega) (pairs_nb _) (.inl rfl)⟩
 case hAx =>
  rintro k O x v a' A B ⟨bb, xo, xw, rfl, h1, h2, h3, h4⟩ q
  obtain ⟨_, _, e, p1, p2⟩ := id h1
  cases e
  obtain ⟨_, _, rfl, _⟩ := p1.1.open
  obtain ⟨_, _, p3, _⟩ := p2
  obtain ⟨_, _, rfl, _⟩ := RowAt.open (by assumption)
  exact ⟨bb, _, _, rfl, h1.quiet q, q.cell h2 (NB.slice _ _ _), q.cell h3 (NB.slice _ _ _), h4⟩
 case hstop => intro D c W _ h; exact h.elim
 case hassign =>
  intro l k O x v W K hi hx hen hK
  have HK := Lib.hid hK
  have hen' := hen
  obtain ⟨_, _, rfl, p1, p2⟩ := hen'
  obtain ⟨_, _, rfl, _⟩ := p1.1.open
  obtain ⟨_, _, p3, _⟩ := p2
  obtain ⟨_, _, rfl, _⟩ := RowAt.open (by assumption)
  clear hK p3 p1
  gi_wp2
  refine HK.out _ (W.alloc (.cells #[_, _] 113)) ((Ext.refl W).alloc _) ⟨W.heap.size, _, _, rfl, hen.ext ((Ext.refl W).alloc _), by go_simp, by go_simp, ?_⟩
  (repeat apply Exists.intro)
  rfl
 case hbody =>
  rintro l k O x v a' W hl ⟨r, hr⟩ hO ⟨ov, hc⟩ hx ⟨bb, xo, xw, rfl, hst, g0, g1, hA⟩ hsz
  obtain ⟨u0, hA⟩ := hA
  obtain ⟨u1, hA⟩ := hA
  obtain ⟨u2, hA⟩ := hA
  obtain ⟨u4, hA⟩ := hA
  obtain ⟨u7, hA⟩ := hA
  obtain ⟨u8, hA⟩ := hA
  obtain ⟨u9, hA⟩ := hA
  obtain ⟨u10, hA⟩ := hA
  obtain ⟨u11, hA⟩ := hA
  obtain ⟨u12, hA⟩ := hA
  obtain ⟨u13, hA⟩ := hA
  obtain ⟨u14, hA⟩ := hA
  obtain ⟨u15, hA⟩ := hA
  obtain ⟨u16, hA⟩ := hA
  obtain ⟨u17, hA⟩ := hA
  obtain ⟨u18, hA⟩ := hA
  obtain ⟨u19, hA⟩ := hA
  obtain ⟨u20, hA⟩ := hA
  obtain ⟨u21, hA⟩ := hA
  obtain ⟨u22, hA⟩ := hA
  obtain ⟨u23, hA⟩ := hA
  obtain ⟨u24, hA⟩ := hA
  obtain ⟨u25, hA⟩ := hA
  obtain ⟨u26, hA⟩ := hA
  subst hA
  have hxm := List.mem_of_getElem? hx
  have hf := truth_facts HBS.out.1 HBS.out.2 hxm
  obtain ⟨_, _, e, p1, _⟩ := hst
  cases e
  obtain ⟨pa, pc, rfl, l1, l2, l3⟩ := p1.1.open
  have hix : i < x.org.length := by rw [hf.2.1]; exact HI.out
  obtain ⟨pb, po, y, rfl, hy, y0, y1⟩ := l3 i hix
  have hyo : orgAt x i = y := by unfold orgAt; rw [List.getD_eq_getElem?_getD, hy.out]; rfl
  obtain ⟨ya, yb⟩ := y
  have s1 := hc.sh
  have i1 : (0 : Int) ≤ (i : Int) := by omega
  have i2 : (i : Int) < (x.org.length : Int) := by omega
  have hx7 : Ext W (W.alloc (.cells #[.int .i64 ya, .int .i64 yb] 84)) := (Ext.refl W).alloc _
  have o7 := (hc.col.ext' hx7).o
  have hn : NB ov := owns_nb hc.col.own
  have hform : ∃ a n c, ov = .slice a n c := by obtain ⟨_, ⟨rfl, _⟩ | ⟨g, cap, cur, rfl, _⟩⟩ := hc.col.own <;> exact ⟨_, _, _, rfl⟩
  obtain ⟨va, vn, vc, rfl⟩ := hform
  have HCT := Lib.hid (fun (W1 : World) (h : Ext W W1) => containsO_any (.slice va vn vc) (couldL b s i k) (ya, yb) W1 (show PairsAt W1 _ _ from RowAt.of_owns (owns_ext hc.col.own h)))
  unfold orgV at HCT
  have HC := Lib.hid hc
  have HX := Lib.hid hx
  have HX7 := Lib.hid hx7
  have HO := Lib.hid hO
  have hlen := couldL_len HBS.out.1 HBS.out.2 HI.out k
  have HSZ := Lib.hid (show (couldL b s i k).length + 1 ≤ maxLen ∧ ((couldL b s i k).length + 1) * 16 ≤ 140737488355328 by unfold maxLen; omega)
  clear hc hx hx7 hO hf l3 hy p1 hn hlen
  by_cases hm : (ya, yb) ∈ couldL b s i k
  ·rw [show decide ((ya, yb) ∈ couldL b s i k) = true by simpa using hm] at HCT
   have HE := Lib.hid (could_same HX.out (by rw [hyo]; exact hm))
   clear hm hyo
   gi_wp2_with (gi_at_call 88; refine (callsIn_round (HCT.out _ HX7.out)).mono ?_; rintro e w2 ⟨rfl, hx2⟩)
   have hxx := HX7.out.trans hx2
   refine ⟨Touch.of_ext hxx, O, fun j hj => ⟨.inl hj, by have := (HO.out j hj).2; have := hxx.size; omega⟩, .slice va vn vc, ?_⟩
   refine ⟨hxx.cell HC.out.sh, ?_⟩
   rw [HE.out]
   exact HC.out.col.ext' hxx
  ·rw [show decide ((ya, yb) ∈ couldL b s i k) = false by simpa using hm] at HCT
   have HE := Lib.hid (could_more HX.out (by rw [hyo]; exact hm))
   rw [hyo] at HE
   clear hm hyo
   gi_wp2_with (first
    | (gi_at_call 88; refine (callsIn_round (HCT.out _ HX7.out)).mono ?_; rintro e w2 ⟨rfl, hx2⟩; have hxx := HX7.out.trans hx2; have o2 := (HC.out.col.ext' hxx).o; have t70 := hx2.cell (a := ⟨W.heap.size, 0, none⟩) (v := .int .i64 ya) (by go_simp); have t71 := hx2.cell (a := ⟨W.heap.size, 1, none⟩) (v := .int .i64 yb) (by go_simp); have hbz : w.heap.size + 2 + 1 ≤ w2.heap.size := (by have := lt_of_cell o2; exact this))
    | (gi_at_builtin; refine wpListIn_push_at E_pairs rfl _ _ rfl (w.heap.size + 2 + 1) rfl (HC.out.col.ext' hxx).own rfl (by simp) rfl (by simp [Value.oneCell']) ?_ HSZ.out.1 HSZ.out.2 hbz; intro g cap w5 hown5 hext5 hg5 hloc5; obtain ⟨⟨z0, z1⟩, z2, z3, z4⟩ := HC.out.col.push (by omega) hxx hown5 hg5 hloc5; have HZ := Lib.hid (And.intro z2 (And.intro z3 z4)); clear z2 z3 z4 hown5 hext5 hg5 hloc5))
   refine ⟨HZ.out.1, _, HZ.out.2.1, .slice (some ⟨g, 0, none⟩) ((couldL b s i k).length + 1) cap, ?_⟩
   refine ⟨HZ.out.1.cell HC.out.sh (fun h => ?_), ?_⟩
   ·rcases (HC.out.col.low _).1 h with h | h
    ·simp only at h; omega
    ·have := owns_block HC.out.col.own _ h; simp only at this; omega
   ·rw [HE.out, List.length_append, List.flatMap_append]
    exact HZ.out.2.2
 case hdone =>
  intro D O W hD hO ⟨ov, hc⟩ hd
  have hDw : w.heap.size ≤ D := by omega
  have o1 := hc.col.o
  have hL : ∀ ys : List Org, ys.Perm (couldL b s i (truthsOf b s).length) → (ys.Pairwise fun a b => ltO b a = false) → ys = couldOf b s i := fun ys h1 h2 => could_sorted HBS.out.1 HBS.out.2 HI.out h1 h2
  have HL := Lib.hid hL
  have hlen := couldL_len HBS.out.1 HBS.out.2 HI.out (truthsOf b s).length
  have hcol := hc.col
  generalize couldL b s i (truthsOf b s).length = L at hcol hlen HL
  clear hL hc h0
  have HX := Lib.hid hcol.ext
  cases L with
  | nil =>
   have hform : ∃ p c, ov = .slice p 0 c := by obtain ⟨_, ⟨rfl, _⟩ | ⟨g, cap, cur, rfl, _⟩⟩ := hcol.own <;> exact ⟨_, _, rfl⟩
   obtain ⟨p, c, rfl⟩ := hform
   have hpa : PairsAt W (.slice p 0 c) [] := RowAt.of_owns hcol.own
   rw [HL.out [] (List.Perm.refl _) List.Pairwise.nil] at hpa
   have HPA := Lib.hid hpa
   have HSO := Lib.hid (sortO_none p c W)
   clear hcol hpa
   gi_wp2_with (gi_at_call 89; refine (callsIn_wide.2 HSO.out).mono ?_; rintro e w4 ⟨rfl, rfl⟩)
   refine ⟨by simp, .inl ⟨_, _, rfl, run_takeDeferred hd, ?_⟩⟩
   have hq := Quiet.putObj (n := w.heap.size) (.deferred none) hd hDw rfl
   exact ⟨_, by simp [results, Tryz.results49, go_sem], _, rfl, HX.out.quiet (Nat.le_refl _) hq, hq.pairs HPA.out⟩
  | cons y L =>
   obtain ⟨g, cap, rfl, hob, hgl⟩ := owns_head hcol.own
   have hgb := owns_block hcol.own g rfl
   have HSO := Lib.hid (sortO_some (y :: L) (w.heap.size + 2 + 1) g cap W hcol.own (by omega) hgl)
   have hDg : ¬ D = g := by
    rintro rfl
    have h1 := hcol.own.cellAt 0 (by simp)
    unfold World.cell? at h1
    rw [hd] at h1
    simp [pairC] at h1
   have hno : ¬ w.heap.size + 2 = g := by omega
   clear hcol
   gi_wp2_with (gi_at_call 89; refine (callsIn_wide.2 HSO.out).mono ?_; rintro e w4 ⟨rfl, ht4, ys, hp, hs, hpa⟩; have o4 := ht4.cell o1 hno; rw [HL.out ys hp hs] at hpa; have HPA := Lib.hid hpa; clear hpa)
   have hd4 := ht4.keep _ _ hd hDg
   refine ⟨by simp, .inl ⟨_, _, rfl, run_takeDeferred hd4, ?_⟩⟩
   have hq := Quiet.putObj (n := w.heap.size) (.deferred none) hd4 hDw rfl
   exact ⟨_, by simp [results, Tryz.results49, go_sem], _, rfl, (Touch.ext HX.out ht4 (fun j hj => by omega)).quiet (Nat.le_refl _) hq, hq.pairs HPA.out⟩
end Go.Proofs.YtiodjapdiflphaaGreatDoor
