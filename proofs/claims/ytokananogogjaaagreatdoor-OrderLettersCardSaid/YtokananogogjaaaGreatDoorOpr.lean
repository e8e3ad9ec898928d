/- parsed: what it keeps while it reads. -/
import Derived.Test.YtokananogogjaaaGreatDoorOtx
import Derived.Test.YtokananogogjaaaGreatDoorOsr
namespace Go.Proofs.YtokananogogjaaaGreatDoor
open Go.RowKit
theorem setCell_block {w : World} {b i : Nat} {v : Value} {c : Array Value} {e : TypeId} {f : Nat × Nat} (h : w.heap[b]? = some (.cells c e f)) : (w.setCell ⟨b, i, none⟩ v).heap[b]? = some (.cells (c.setIfInBounds i v) e f) := by
 simp [World.setCell, Array.getElem?_modify, h]
theorem kept_push {W W7 : World} {o x : Obj} {row : Option Nat} {b base : Nat} (hgr : (W.alloc o).grownBy W7 row) (h : W.heap[b]? = some x) (hr : ∀ g, row = some g → base ≤ g) (hb : b < base) : W7.heap[b]? = some x := by
 have hlt := (Array.getElem?_eq_some_iff.1 h).1
 exact (hgr.block b (by rw [World.size_alloc]; omega) (fun e => by have := hr _ e.symm; omega)).trans ((Below.heap_alloc _ _ _ hlt).trans h)
theorem block_cell {W : World} {b i : Nat} {cs : Array Value} {t : TypeId} {v : Value} (h : W.heap[b]? = some (.cells cs t (0, 0))) (hv : cs[i]? = some v) : W.cell? ⟨b, i, none⟩ = some v ∧ W.frozen? ⟨b, i, none⟩ = false := by
 constructor
 ·simp [World.cell?, h, hv]
 ·simp [World.frozen?, h]
theorem E_goods : Elem Tryz.prog 22 62 1 8 (.agg #[.int .i64 0]) := by
 obtain ⟨i, h1, h2, h3, h4⟩ := info_parts (show (Tryz.prog.info? 62).map (fun i => (i.zero, i.size, i.bytes)) = some (some (.agg #[.int .i64 0]), 1, 8) by kernel_rfl)
 exact ⟨Tryz.underlying22, ⟨i, h1, h2, h3, h4⟩, rfl, by decide⟩
theorem E_entries : Elem Tryz.prog 23 64 3 24 (.agg #[.int .i64 0, .int .i64 0, .int .i64 0]) := by
 obtain ⟨i, h1, h2, h3, h4⟩ := info_parts (show (Tryz.prog.info? 64).map (fun i => (i.zero, i.size, i.bytes)) = some (some (.agg #[.int .i64 0, .int .i64 0, .int .i64 0]), 3, 24) by kernel_rfl)
 exact ⟨Tryz.underlying23, ⟨i, h1, h2, h3, h4⟩, rfl, by decide⟩
/-- Rows of different types lie apart. -/
theorem owns_apart {W : World} {b1 b2 : Nat} {e1 e2 : TypeId} {s1 s2 n1 n2 : Nat} {v1 v2 : Value} {x1 x2 : List Value} (h1 : W.ownsRow b1 e1 s1 v1 n1 x1) (h2 : W.ownsRow b2 e2 s2 v2 n2 x2) (hne : e1 ≠ e2) : ∀ g, v1.ownBlock = some g → v2.ownBlock ≠ some g := by
 intro g hg h
 obtain ⟨_, ⟨q, _⟩ | ⟨g1, c1, cur1, q, _, hh, _⟩⟩ := h1
 ·rw [q] at hg; cases hg
 ·obtain ⟨_, ⟨q', _⟩ | ⟨g2, c2, cur2, q', _, hh', _⟩⟩ := h2
  ·rw [q'] at h; cases h
  ·rw [q] at hg; rw [q'] at h
   cases hg; cases h
   rw [hh] at hh'
   cases hh'
   exact hne rfl
/-- A row is kept where another one grows. -/
theorem owns_grown {W W7 : World} {o : Obj} {row : Option Nat} {base : Nat} {e : TypeId} {sz n : Nat} {v : Value} {xs : List Value} (hgr : (W.alloc o).grownBy W7 row) (h : W.ownsRow base e sz v n xs) (hne : ∀ g, v.ownBlock = some g → row ≠ some g) : W7.ownsRow base e sz v n xs := by
 refine ⟨h.1, ?_⟩
 rcases h.2 with h1 | ⟨g, cap, cur, h1, h2, h3, h4⟩
 ·exact .inl h1
 ·have hlt := (Array.getElem?_eq_some_iff.1 h3).1
  exact .inr ⟨g, cap, cur, h1, h2, (hgr.block g (by rw [World.size_alloc]; omega) (fun e => hne g (by rw [h1]; rfl) e.symm)).trans ((Below.heap_alloc _ _ _ hlt).trans h3), h4⟩
/-- What parsed holds behind some lines. -/
def ParI (B : Nat) (b : Book) (gv ev : Value) (W : World) : Prop := W.heap[B]? = some (.cells #[gv, .int .i64 b.editions, .int .i64 b.moves, ev] 25 (0, 0)) ∧
 W.ownsRow (B + 1) 62 1 gv b.goods.length (b.goods.map (.int .i64)) ∧ W.ownsRow (B + 1) 64 3 ev b.entries.length (b.entries.flatMap entryC)
theorem ParI.book {B : Nat} {b : Book} {gv ev : Value} {W : World} (h : ParI B b gv ev W) : BookAt W (.agg #[gv, .int .i64 b.editions, .int .i64 b.moves, ev]) b :=
 ⟨gv, ev, rfl, RowAt.of_owns h.2.1, RowAt.of_owns h.2.2⟩
theorem ParI.ext {B : Nat} {b : Book} {gv ev : Value} {W W' : World} (h : ParI B b gv ev W) (k : Ext W W') : ParI B b gv ev W' :=
 ⟨(k.block (Array.getElem?_eq_some_iff.1 h.1).1).trans h.1, owns_ext h.2.1 k, owns_ext h.2.2 k⟩
theorem ParI.good {B : Nat} {b : Book} {gv ev : Value} {W W7 : World} {o : Obj} {g cap : Nat} {x : Int} (h : ParI B b gv ev W) (hgr : (W.alloc o).grownBy W7 gv.ownBlock) (hown : W7.ownsRow (B + 1) 62 1 (.slice (some ⟨g, 0, none⟩) (b.goods.length + 0 + 1) cap) (b.goods.length + 0 + 1) (b.goods.map (.int .i64) ++ [.int .i64 x])) :
  ParI B { b with goods := b.goods ++ [x] } (.slice (some ⟨g, 0, none⟩) (b.goods.length + 0 + 1) cap) ev (W7.setCell ⟨B, 0, none⟩ (.slice (some ⟨g, 0, none⟩) (b.goods.length + 0 + 1) cap)) := by
 have h1 := kept_push hgr h.1 (owns_block h.2.1) (Nat.lt_succ_self B)
 have h3 := owns_grown hgr h.2.2 (fun g hg e => owns_apart h.2.2 h.2.1 (by decide) g hg e)
 refine ⟨setCell_block (i := 0) h1, ?_, ?_⟩
 ·have := owns_touch hown (Touch.setCell (M := (· = B)) (a := ⟨B, 0, none⟩) (.slice (some ⟨g, 0, none⟩) (b.goods.length + 0 + 1) cap) rfl) (fun g hg e => by have := owns_block hown g hg; omega)
  show World.ownsRow _ _ _ _ _ (b.goods ++ [x]).length ((b.goods ++ [x]).map _)
  rw [List.map_append, List.length_append]
  exact this
 ·exact owns_touch h3 (Touch.setCell (M := (· = B)) (a := ⟨B, 0, none⟩) _ rfl) (fun g hg e => by have := owns_block h3 g hg; omega)
theorem ParI.entry {B : Nat} {b : Book} {gv ev : Value} {W W7 : World} {o : Obj} {g cap : Nat} {x : Int × Int × Int} (h : ParI B b gv ev W) (hgr : (W.alloc o).grownBy W7 ev.ownBlock) (hown : W7.ownsRow (B + 1) 64 3 (.slice (some ⟨g, 0, none⟩) (b.entries.length + 0 + 1) cap) (b.entries.length + 0 + 1) (b.entries.flatMap entryC ++ [.int .i64 x.1, .int .i64 x.2.1, .int .i64 x.2.2])) :
  ParI B { b with entries := b.entries ++ [x] } gv (.slice (some ⟨g, 0, none⟩) (b.entries.length + 0 + 1) cap) (W7.setCell ⟨B, 3, none⟩ (.slice (some ⟨g, 0, none⟩) (b.entries.length + 0 + 1) cap)) := by
 have h1 := kept_push hgr h.1 (owns_block h.2.2) (Nat.lt_succ_self B)
 have h3 := owns_grown hgr h.2.1 (fun g hg e => owns_apart h.2.1 h.2.2 (by decide) g hg e)
 refine ⟨setCell_block (i := 3) h1, ?_, ?_⟩
 ·exact owns_touch h3 (Touch.setCell (M := (· = B)) (a := ⟨B, 3, none⟩) _ rfl) (fun g hg e => by have := owns_block h3 g hg; omega)
 ·have := owns_touch hown (Touch.setCell (M := (· = B)) (a := ⟨B, 3, none⟩) (.slice (some ⟨g, 0, none⟩) (b.entries.length + 0 + 1) cap) rfl) (fun g hg e => by have := owns_block hown g hg; omega)
  show World.ownsRow _ _ _ _ _ (b.entries ++ [x]).length ((b.entries ++ [x]).flatMap _)
  rw [List.flatMap_append, List.length_append]
  exact this
/-- What parsed comes to. -/
def ParPost (s : List UInt8) (w : World) (e : Ending) (w' : World) : Prop :=
 (isTextB s = true ∧ ∃ gv ev, e = .returned (.agg #[gv, .int .i64 (bookOf s).editions, .int .i64 (bookOf s).moves, ev]) ∧ Ext w w' ∧
  w'.ownsRow (w.heap.size + 1) 62 1 gv (bookOf s).goods.length ((bookOf s).goods.map (.int .i64)) ∧ w'.ownsRow (w.heap.size + 1) 64 3 ev (bookOf s).entries.length ((bookOf s).entries.flatMap entryC)) ∨
 (isTextB s = false ∧ NoneP w e w')
theorem not_text {s : List UInt8} (h : linesOk s = false) : isTextB s = false := by unfold isTextB; rw [h]; rfl
/-- HasPrefix. -/
theorem pref_any (l p : List UInt8) (w : World) : Calls Tryz.prog 107 #[strV l, strV p] w fun e w' => e = .returned (.bool (begins p l)) ∧ w' = w := by
 have h := Any.strings_HasPrefix Tryz.prefS ⟨l.toArray⟩ ⟨p.toArray⟩ w
 have e : Lib.hasPrefix (⟨l.toArray⟩ : ByteArray).data.toList (⟨p.toArray⟩ : ByteArray).data.toList = begins p l := by
  show Lib.hasPrefix l p = _
  rw [← Lib.hasPrefix_of_take]
  unfold begins
  by_cases h1 : l.take p.length = p
  ·have h2 := congrArg List.length h1
   rw [List.length_take] at h2
   rw [decide_eq_true h1, decide_eq_true (show p.length ≤ l.length by omega), h1]; simp
  ·rw [decide_eq_false h1]; simp [h1]
 rw [e] at h
 exact h
set_option maxRecDepth 100000 in
set_option maxHeartbeats 4000000 in
theorem parsed_few (s : List UInt8) (w : World) (hm : MaxOk w) (hs : s.length ≤ 300) (q : (splitL 10 s).length < 3) : Calls Tryz.prog 76 #[strV s] w (ParPost s w) := by
 have HSP := Lib.hid (fun w1 (hx : Ext w w1) => split_any s 10 w1 (hm.ext hx) (by omega))
 have HSN := Lib.hid sure_no
 have HN : Hid (isTextB s = false) := not_text (by unfold linesOk; rw [decide_eq_false (by omega)]; rfl)
 have HX0 := Lib.hid ((Ext.refl w).alloc (.cells #[.slice none 0 0, .int .i64 0, .int .i64 0, .slice none 0 0] 25))
 obtain ⟨L, hL⟩ : ∃ L, (splitL 10 s).length = L := ⟨_, rfl⟩
 rw [hL] at HSP q
 have t1 : decide ((3 : Int) ≤ (L : Int)) = false := by simp; omega
 clear hm hL
 go_enter Tryz.func76, Tryz.ntmps76
 go_wp2_with (first
  | (go_at_call 103; refine (HSP.out _ HX0.out).mono ?_; rintro e w1 ⟨b, rfl, hx1, hst⟩; have hy1 := HX0.out.trans hx1; clear hst)
  | (go_at_call 104; refine (HSN.out _ _).mono ?_; rintro e w2 ⟨why, rfl, hx2⟩))
 exact ⟨rfl, .inr ⟨HN.out, why, rfl, hy1.trans hx2⟩⟩
end Go.Proofs.YtokananogogjaaaGreatDoor

/- parsed: the book of a text, or giving up. -/
namespace Go.Proofs.YtokananogogjaaaGreatDoor
open Go.RowKit
theorem bookTo_goods (s : List UInt8) (k : Nat) : (bookTo s k).goods = goodsTo s k := rfl
theorem bookTo_entries (s : List UInt8) (k : Nat) : (bookTo s k).entries = entsTo s k := rfl
theorem book_step_good {s : List UInt8} {k : Nat} (h : begins wGood (lineAt s (k + 1)) = true) : bookTo s (k + 1) = { bookTo s k with goods := goodsTo s k ++ [(toldN (lineAt s (k + 1))).getD 0 0] } := by
 unfold bookTo
 rw [goodsTo_succ, entsTo_succ]
 unfold goodAt entAt
 rw [if_pos h, if_pos h, List.append_nil]
theorem book_step_entry {s : List UInt8} {k : Nat} (h : begins wGood (lineAt s (k + 1)) = false) : bookTo s (k + 1) = { bookTo s k with entries := entsTo s k ++ [((toldN (lineAt s (k + 1))).getD 0 0, (toldN (lineAt s (k + 1))).getD 1 0, (toldN (lineAt s (k + 1))).getD 2 0)] } := by
 unfold bookTo
 rw [goodsTo_succ, entsTo_succ]
 unfold goodAt entAt
 rw [if_neg (by rw [h]; decide), if_neg (by rw [h]; decide), List.append_nil]
theorem bad_mid {s : List UInt8} {k : Nat} (hk : k < midN s) (h : midOk s k = false) : isTextB s = false := by
 cases ht : isTextB s with
 | false => rfl
 | true =>
  unfold isTextB at ht
  rw [Bool.and_eq_true] at ht
  have := (lines_parts ht.1).2.2 k hk
  rw [h] at this; cases this
theorem book_small {s : List UInt8} (h0 : toldOk wBook 2 (lineAt s 0) = true) (hs : s.length ≤ 300) (h : ∀ j, j < midN s → midOk s j = true) : TextSmall (bookOf s) := by
 have h1 := goodsTo_len s (midN s)
 have h2 := mid_bd s
 refine ⟨bookTo_small h0 h, ?_, ?_⟩
 ·show (goodsTo s (midN s)).length ≤ 400; omega
 ·show (entsTo s (midN s)).length ≤ 400; omega
theorem ints_at {W : World} {base g n c : Nat} {ns : List Int} (h : W.ownsRow base 3 1 (.slice (some ⟨g, 0, none⟩) n c) ns.length (ns.map (.int .i64))) {i : Nat} (hi : i < ns.length) : W.cell? ⟨g, i, none⟩ = some (.int .i64 (ns.getD i 0)) := by
 refine row_cell (RowAt.of_owns h) ?_
 rw [List.getElem?_map, List.getElem?_eq_getElem hi, List.getD_eq_getElem?_getD, List.getElem?_eq_getElem hi]; rfl
set_option maxRecDepth 100000 in
set_option maxHeartbeats 8000000 in
theorem parsed_main (s : List UInt8) (w : World) (ht : TabOk w) (hm : MaxOk w) (hs : s.length ≤ 300) (q3 : 3 ≤ (splitL 10 s).length) : Calls Tryz.prog 76 #[strV s] w (ParPost s w) := by
 have HSP := Lib.hid (fun w1 (hx : Ext w w1) => split_any s 10 w1 (hm.ext hx) (by omega))
 have HSU := Lib.hid sure_yes
 have HSN := Lib.hid sure_no
 have HX0 := Lib.hid ((Ext.refl w).alloc (.cells #[.slice none 0 0, .int .i64 0, .int .i64 0, .slice none 0 0] 25))
 have HZ0 := Lib.hid (World.alloc_heap_new w (.cells #[.slice none 0 0, .int .i64 0, .int .i64 0, .slice none 0 0] 25))
 have HG := Lib.hid (fun i (hi : i < (splitL 10 s).length) => lineAt_get (s := s) (i := i) hi)
 have HTO := Lib.hid (fun i word M w1 (hM : 1 ≤ M ∧ M ≤ 3000) (hx : Ext w w1) (h : toldOk word M (lineAt s i) = true) => told_ok (lineAt s i) word M w1 (ht.ext hx) (hm.ext hx) (by have := lineAt_short s i; omega) hM h)
 have HTN := Lib.hid (fun i word M w1 (hM : 1 ≤ M ∧ M ≤ 3000) (hx : Ext w w1) (h : toldOk word M (lineAt s i) = false) => told_no (lineAt s i) word M w1 (ht.ext hx) (hm.ext hx) (by have := lineAt_short s i; omega) hM h)
 have HTX := Lib.hid (fun v b w1 (hx : Ext w w1) (hr : BookAt w1 v b) (hB : TextSmall b) => text_any v b w1 hr hB (ht.ext hx))
 obtain ⟨N, hN⟩ : ∃ N : Nat, midN s = N := ⟨_, rfl⟩
 have hL : (splitL 10 s).length = N + 3 := by unfold midN at hN; omega
 have HN := Lib.hid hN
 have HPC := Lib.hid hL
 have hN3 : N ≤ 300 := by have := mid_bd s; omega
 rw [hL] at HSP
 have t1 : decide ((3 : Int) ≤ (N : Int) + 3) = true := by simp; omega
 have t1' : (3 : Int) ≤ (N : Int) + 3 := by omega
 have b0 : (0 : Int) < (N : Int) + 3 := by omega
 have E2 : IntKind.i64.wrap ((N : Int) + 3 - 2) = (N : Int) + 1 := by rw [show (N : Int) + 3 - 2 = (N : Int) + 1 by omega]; exact IntWalk.i64_in _ (by omega)
 clear ht hm hL q3 hN
 go_enter Tryz.func76, Tryz.ntmps76
 go_upto_region 3 with (first
  | (go_at_call 103; refine (HSP.out _ HX0.out).mono ?_; rintro e w1 ⟨b, rfl, hx1, hst⟩; have HST := Lib.hid hst; clear hst)
  | (go_at_call 104; refine (HSU.out _ _).mono ?_; rintro e w2 ⟨rfl, rfl⟩))
 have hy1 := HX0.out.trans hx1
 have HZ1 := Lib.hid ((hx1.block (b := w.heap.size) (by simp)).trans HZ0.out)
 go_upto_region 4 with (go_at_call 105; refine (words_any _).mono ?_; rintro e w3 ⟨rfl, hx3⟩)
 have HWC := Lib.hid (fun (k : Nat) (x : Value) hk => words_cell w3 (k := k) (x := x) hk)
 have hxa : Ext w3 (w3.alloc (.cells #[.string ⟨wBook.toArray⟩, .string ⟨wGood.toArray⟩, .string ⟨wEntry.toArray⟩] 169)) := (Ext.refl _).alloc _
 obtain ⟨m, hm⟩ : ∃ m, w3.heap.size = m := ⟨_, rfl⟩
 rw [hm] at HWC
 generalize w3.alloc (.cells #[.string ⟨wBook.toArray⟩, .string ⟨wGood.toArray⟩, .string ⟨wEntry.toArray⟩] 169) = W3 at *
 rw [hm]
 clear hm
 have hx13 := hx3.trans hxa
 have HX3 := Lib.hid hx13
 have HY3 := Lib.hid (hy1.trans hx13)
 have z0 : W3.cell? ⟨b, 0, none⟩ = some (strV (lineAt s 0)) := hx13.cell (strs_cell HST.out (HG.out 0 (by rw [HPC.out]; omega)))
 have y0 : W3.cell? ⟨m, 0, none⟩ = some (strV wBook) := HWC.out 0 _ rfl
 clear hx1 hx3 hxa hx13 hy1
 cases q0 : toldOk wBook 2 (lineAt s 0) with
 | false =>
  have HT := Lib.hid (fun w1 hx => HTN.out 0 wBook 2 w1 ⟨by omega, by omega⟩ hx q0)
  have HNO : Hid (isTextB s = false) := not_text (by unfold linesOk; rw [q0, Bool.and_false]; rfl)
  clear q0
  refine wp_region_any (by kernel_rfl) (wpAny_of_till (z := 6) (S := (fun w' => w'.cell? ⟨b, 0, none⟩ = some (strV (lineAt s 0)) ∧ w'.cell? ⟨m, 0, none⟩ = some (strV wBook))) _ _ _ _ ?_)
  change wpTill _ _ _ _ _ _ _ _ _ W3.drew
  have hS0 := (show (World.drew W3).cell? ⟨b, 0, none⟩ = some (strV (lineAt s 0)) ∧ (World.drew W3).cell? ⟨m, 0, none⟩ = some (strV wBook) from ⟨z0, y0⟩)
  refine till_at (i := 0) (d := some 19) (v := ?_) (by kernel_rfl) (by kernel_rfl) (by kernel_rfl) (by kernel_rfl) (by kernel_rfl) (fun _ _ _ h => h) (fun o ho => ?_) hS0 ?_
  rotate_left
  ·simp only [zA, zB, zD] at ho
   subst ho
   refine Or.inl ⟨by rfl, fun w' hSw => ?_⟩
   obtain ⟨hSw0, hSw1⟩ := hSw
   go_simp
   try with_reducible rfl
  try simp only [Act.put, yA, yB, yC]
  refine till_at (i := 1) (d := some 20) (v := ?_) (by kernel_rfl) (by kernel_rfl) (by kernel_rfl) (by kernel_rfl) (by kernel_rfl) (fun _ _ _ h => h) (fun o ho => ?_) hS0 ?_
  rotate_left
  ·simp only [zA, zB, zC, zD] at ho
   subst ho
   refine Or.inl ⟨by rfl, fun w' hSw => ?_⟩
   obtain ⟨hSw0, hSw1⟩ := hSw
   go_simp
   try with_reducible rfl
  try simp only [Act.put, yA, yB, yC]
  refine till_at (i := 2) (d := some 21) (v := ?_) (by kernel_rfl) (by kernel_rfl) (by kernel_rfl) (by kernel_rfl) (by kernel_rfl) (fun _ _ _ h => h) (fun o ho => ?_) hS0 ?_
  rotate_left
  ·simp only [zA, zB, zC, zD] at ho
   subst ho
   refine Or.inl ⟨by rfl, fun w' hSw => ?_⟩
   obtain ⟨hSw0, hSw1⟩ := hSw
   go_simp
   try with_reducible rfl
  try simp only [Act.put, yA, yB, yC]
  refine till_at (i := 3) (d := some 22) (v := ?_) (by kernel_rfl) (by kernel_rfl) (by kernel_rfl) (by kernel_rfl) (by kernel_rfl) (fun _ _ _ h => h) (fun o ho => ?_) hS0 ?_
  rotate_left
  ·simp only [zA, zB, zC, zD] at ho
   subst ho
   refine Or.inl ⟨by rfl, fun w' hSw => ?_⟩
   obtain ⟨hSw0, hSw1⟩ := hSw
   go_simp
   try with_reducible rfl
  try simp only [Act.put, yA, yB, yC]
  refine till_at (i := 4) (d := some 23) (v := ?_) (by kernel_rfl) (by kernel_rfl) (by kernel_rfl) (by kernel_rfl) (by kernel_rfl) (fun _ _ _ h => h) (fun o ho => ?_) hS0 ?_
  rotate_left
  ·simp only [zA, zB, zC, zD] at ho
   subst ho
   refine Or.inl ⟨by rfl, fun w' hSw => ?_⟩
   obtain ⟨hSw0, hSw1⟩ := hSw
   go_simp
   try with_reducible rfl
  try simp only [Act.put, yA, yB, yC]
  refine till_step (i := 5) (by kernel_rfl) (by kernel_rfl) (fun o ho K' hK => ?_)
  simp only [zA, zB, zC, zD] at ho
  subst ho
  go_simp
  go_at_call 106
  refine (HT.out _ HY3.out.drew).mono ?_
  rintro e w4 ⟨why, rfl, hx4⟩
  exact ⟨rfl, .inr ⟨HNO.out, why, rfl, HY3.out.drew.trans hx4⟩⟩
 | true =>
  have HT := Lib.hid (fun w1 hx => HTO.out 0 wBook 2 w1 ⟨by omega, by omega⟩ hx q0)
  obtain ⟨hl0, hs0, -⟩ := told_line q0
  have HQ0 := Lib.hid q0
  have HED := Lib.hid (getD_small hs0)
  have HBE : Hid ((bookTo s 0).editions = (toldN (lineAt s 0)).getD 0 0 ∧ (bookTo s 0).moves = (toldN (lineAt s 0)).getD 1 0) := ⟨rfl, rfl⟩
  obtain ⟨ns, hns⟩ : ∃ ns, toldN (lineAt s 0) = ns := ⟨_, rfl⟩
  rw [hns] at HT hl0 HED HBE
  have HNS := Lib.hid hns
  clear q0 hs0 hns
  refine wp_region_any (by kernel_rfl) (wpAny_of_till (z := 6) (S := (fun w' => w'.cell? ⟨b, 0, none⟩ = some (strV (lineAt s 0)) ∧ w'.cell? ⟨m, 0, none⟩ = some (strV wBook))) _ _ _ _ ?_)
  change wpTill _ _ _ _ _ _ _ _ _ W3.drew
  have hS0 := (show (World.drew W3).cell? ⟨b, 0, none⟩ = some (strV (lineAt s 0)) ∧ (World.drew W3).cell? ⟨m, 0, none⟩ = some (strV wBook) from ⟨z0, y0⟩)
  refine till_at (i := 0) (d := some 19) (v := ?_) (by kernel_rfl) (by kernel_rfl) (by kernel_rfl) (by kernel_rfl) (by kernel_rfl) (fun _ _ _ h => h) (fun o ho => ?_) hS0 ?_
  rotate_left
  ·simp only [zA, zB, zD] at ho
   subst ho
   refine Or.inl ⟨by rfl, fun w' hSw => ?_⟩
   obtain ⟨hSw0, hSw1⟩ := hSw
   go_simp
   try with_reducible rfl
  try simp only [Act.put, yA, yB, yC]
  refine till_at (i := 1) (d := some 20) (v := ?_) (by kernel_rfl) (by kernel_rfl) (by kernel_rfl) (by kernel_rfl) (by kernel_rfl) (fun _ _ _ h => h) (fun o ho => ?_) hS0 ?_
  rotate_left
  ·simp only [zA, zB, zC, zD] at ho
   subst ho
   refine Or.inl ⟨by rfl, fun w' hSw => ?_⟩
   obtain ⟨hSw0, hSw1⟩ := hSw
   go_simp
   try with_reducible rfl
  try simp only [Act.put, yA, yB, yC]
  refine till_at (i := 2) (d := some 21) (v := ?_) (by kernel_rfl) (by kernel_rfl) (by kernel_rfl) (by kernel_rfl) (by kernel_rfl) (fun _ _ _ h => h) (fun o ho => ?_) hS0 ?_
  rotate_left
  ·simp only [zA, zB, zC, zD] at ho
   subst ho
   refine Or.inl ⟨by rfl, fun w' hSw => ?_⟩
   obtain ⟨hSw0, hSw1⟩ := hSw
   go_simp
   try with_reducible rfl
  try simp only [Act.put, yA, yB, yC]
  refine till_at (i := 3) (d := some 22) (v := ?_) (by kernel_rfl) (by kernel_rfl) (by kernel_rfl) (by kernel_rfl) (by kernel_rfl) (fun _ _ _ h => h) (fun o ho => ?_) hS0 ?_
  rotate_left
  ·simp only [zA, zB, zC, zD] at ho
   subst ho
   refine Or.inl ⟨by rfl, fun w' hSw => ?_⟩
   obtain ⟨hSw0, hSw1⟩ := hSw
   go_simp
   try with_reducible rfl
  try simp only [Act.put, yA, yB, yC]
  refine till_at (i := 4) (d := some 23) (v := ?_) (by kernel_rfl) (by kernel_rfl) (by kernel_rfl) (by kernel_rfl) (by kernel_rfl) (fun _ _ _ h => h) (fun o ho => ?_) hS0 ?_
  rotate_left
  ·simp only [zA, zB, zC, zD] at ho
   subst ho
   refine Or.inl ⟨by rfl, fun w' hSw => ?_⟩
   obtain ⟨hSw0, hSw1⟩ := hSw
   go_simp
   try with_reducible rfl
  try simp only [Act.put, yA, yB, yC]
  refine till_step (i := 5) (by kernel_rfl) (by kernel_rfl) (fun o ho K' hK => ?_)
  simp only [zA, zB, zC, zD] at ho
  subst ho
  go_simp
  go_at_call 106
  refine (HT.out _ HY3.out.drew).mono ?_
  rintro e w4 ⟨v4, rfl, hx4, hv4⟩
  obtain ⟨nb, nc, rfl⟩ := owns_succ (show w4.ownsRow W3.heap.size 3 1 v4 (1 + 1) _ from (show ns.length = 1 + 1 from hl0) ▸ hv4)
  have hS5 := (show w4.cell? ⟨b, 0, none⟩ = some (strV (lineAt s 0)) ∧ w4.cell? ⟨m, 0, none⟩ = some (strV wBook) from ⟨hx4.cell z0, hx4.cell y0⟩)
  refine hK.out _ _ (fun _ => hS5) (fun _ => ?_)
  clear hK K'
  try simp only [Act.put, yA, yB, yC]
  refine till_step (i := 6) (by kernel_rfl) (by kernel_rfl) (fun o ho K' hK => ?_)
  simp only [zA, zB, zC, zD] at ho
  subst ho
  go_simp
  refine hK.out _ _ (fun h => absurd rfl h) (fun _ => ?_)
  clear hK K'
  try simp only [Act.put, yA, yB, yC]
  refine till_done (by kernel_rfl) ?_ _
  try simp only [Act.put, yA, yB, yC]
  have HYW := Lib.hid (HY3.out.drew.trans hx4)
  have HX4 := Lib.hid (HX3.out.drew.trans hx4)
  have c0 : w4.cell? ⟨nb, 0, none⟩ = some (.int .i64 (ns.getD 0 0)) := ints_at (show w4.ownsRow W3.heap.size 3 1 (.slice (some ⟨nb, 0, none⟩) 2 nc) ns.length (ns.map (.int .i64)) from hv4) (by omega)
  have c1 : w4.cell? ⟨nb, 1, none⟩ = some (.int .i64 (ns.getD 1 0)) := ints_at (show w4.ownsRow W3.heap.size 3 1 (.slice (some ⟨nb, 0, none⟩) 2 nc) ns.length (ns.map (.int .i64)) from hv4) (by omega)
  have hza := (Ext.refl w4).alloc (.cells #[.slice none 0 0, .int .i64 0, .int .i64 0, .slice none 0 0] 25)
  have c0' := hza.cell c0
  have c1' := hza.cell c1
  have HM1 := Lib.hid (fun W (h : Ext w4 W) => h.cell (hx4.cell (show (World.drew W3).cell? ⟨m, 1, none⟩ = some (strV wGood) from HWC.out 1 _ rfl)))
  have HM2 := Lib.hid (fun W (h : Ext w4 W) => h.cell (hx4.cell (show (World.drew W3).cell? ⟨m, 2, none⟩ = some (strV wEntry) from HWC.out 2 _ rfl)))
  clear hv4 hS5 hS0 hx4 z0 y0 hl0
  obtain ⟨ed, hed⟩ : ∃ x, ns.getD 0 0 = x := ⟨_, rfl⟩
  obtain ⟨mo, hmo⟩ : ∃ x, ns.getD 1 0 = x := ⟨_, rfl⟩
  rw [hed] at c0 c0' HBE
  rw [hmo] at c1 c1' HBE
  clear hed hmo
  go_upto_region 5 with fail
  go_region
  obtain ⟨W5, hW5⟩ : ∃ W5, W5 = (w4.alloc (.cells #[.slice none 0 0, .int .i64 ed, .int .i64 mo, .slice none 0 0] 25)).drew := ⟨_, rfl⟩
  have hx45 : Ext w4 W5 := by rw [hW5]; exact ((Ext.refl w4).alloc _).drew
  have HP5 : Hid (ParI w4.heap.size (bookTo s 0) (.slice none 0 0) (.slice none 0 0) W5) := by
   refine ⟨?_, World.ownsRow_nil _ _ _ _, World.ownsRow_nil _ _ _ _⟩
   rw [HBE.out.1, HBE.out.2, hW5]
   exact World.alloc_heap_new w4 _
  rw [← hW5]
  clear hW5 c0 c1 c0' c1' hza
  go_wp2_with fail
  clear E2 t1 t1' b0
  go_loopw [38] (fun i wr => ∃ (k : Nat) (gv ev : Value), k ≤ N ∧ i = .int .i64 (k : Int) ∧ Hid (ParI w4.heap.size (bookTo s k) gv ev wr) ∧ Hid (∀ j, j < k → midOk s j = true) ∧ Ext w4 wr) (fun i _ => N - (intOf i).toNat)
  case atStart => exact ⟨0, .slice none 0 0, .slice none 0 0, Nat.zero_le _, rfl, HP5, (by intro j hj; omega), hx45⟩
  case round =>
   clear HP5 hx45
   obtain ⟨k, gv, ev, hk, rfl, hI, hall, hx⟩ := hrel
   obtain ⟨wo, rfl⟩ : ∃ wo : World, wo = wr := ⟨_, rfl⟩
   by_cases hlt : k < N
   ·have z1 : wo.cell? ⟨b, 1 + k, none⟩ = some (strV (lineAt s (k + 1))) := by rw [Nat.add_comm]; exact (HX4.out.trans hx).cell (strs_cell HST.out (HG.out (k + 1) (by rw [HPC.out]; omega)))
    have x1 : decide ((k : Int) < (N : Int)) = true := by simpa using hlt
    have x2 : (k : Int) < (N : Int) := by omega
    have x3 : (0 : Int) ≤ (k : Int) := by omega
    have y1 := HM1.out wo hx
    have y2 := HM2.out wo hx
    have HX := Lib.hid hx
    obtain ⟨va, vc, rfl, _⟩ := RowAt.open (RowAt.of_owns hI.out.2.1)
    obtain ⟨ea, ec, rfl, _⟩ := RowAt.open (RowAt.of_owns hI.out.2.2)
    have HGL := Lib.hid (goodsTo_len s k)
    have HKM : Hid (k < midN s) := by unfold Hid; rw [HN.out]; exact hlt
    cases hb : begins wGood (lineAt s (k + 1)) with
    | true =>
     have HPR : Hid (∀ W, Calls Tryz.prog 107 #[strV (lineAt s (k + 1)), strV wGood] W fun e w' => e = .returned (.bool true) ∧ W = w') := fun W => by rw [← hb]; exact (pref_any _ _ W).mono fun _ _ h => ⟨h.1, h.2.symm⟩
     have HBS := Lib.hid (book_step_good hb)
     cases q2 : toldOk wGood 1 (lineAt s (k + 1)) with
     | false =>
      have HNO : Hid (isTextB s = false) := bad_mid HKM.out (by unfold midOk; rw [if_pos hb]; exact q2)
      have HT := Lib.hid (fun w1 hx => HTN.out (k + 1) wGood 1 w1 ⟨by omega, by omega⟩ hx q2)
      clear q2 hb hx y2
      go_wp2_with (first
       | (go_at_call 107; refine (HPR.out _).mono ?_; rintro e w5 ⟨rfl, rfl⟩)
       | (go_at_call 106; refine (HT.out _ (HYW.out.trans HX.out)).mono ?_; rintro e w6 ⟨why, rfl, hx6⟩))
      exact ⟨rfl, .inr ⟨HNO.out, why, rfl, (HYW.out.trans HX.out).trans hx6⟩⟩
     | true =>
      have HT := Lib.hid (fun w1 hx => HTO.out (k + 1) wGood 1 w1 ⟨by omega, by omega⟩ hx q2)
      have HMO : Hid (∀ j, j < k + 1 → midOk s j = true) := fun j hj => by
       by_cases e : j = k
       ·subst e; unfold midOk; rw [if_pos hb]; exact q2
       ·exact hall.out j (by omega)
      obtain ⟨hln, hsm, -⟩ := told_line q2
      obtain ⟨ms, hms⟩ : ∃ ms, toldN (lineAt s (k + 1)) = ms := ⟨_, rfl⟩
      rw [hms] at HT hln hsm HBS
      clear q2 hb hx y2 hsm hms
      go_upto_region 11 with (first
       | (go_at_call 107; refine (HPR.out _).mono ?_; rintro e w5 ⟨rfl, rfl⟩)
       | (go_at_call 106; refine (HT.out _ (HYW.out.trans HX.out)).mono ?_; rintro e w6 ⟨v9, rfl, hx6, hv9⟩; obtain ⟨tb, tc, rfl⟩ := owns_succ (show w6.ownsRow wo.heap.size 3 1 v9 (0 + 1) _ from (show ms.length = 0 + 1 from hln) ▸ hv9)))
      have d0 : w6.cell? ⟨tb, 0, none⟩ = some (.int .i64 (ms.getD 0 0)) := ints_at (show w6.ownsRow wo.heap.size 3 1 (.slice (some ⟨tb, 0, none⟩) 1 tc) ms.length (ms.map (.int .i64)) from hv9) (by omega)
      obtain ⟨x, hxx⟩ : ∃ x, ms.getD 0 0 = x := ⟨_, rfl⟩
      rw [hxx] at d0 HBS
      have HXX := Lib.hid hxx
      have HLN := Lib.hid hln
      have HV6 : Hid ((World.drew w6).ownsRow wo.heap.size 3 1 (.slice (some ⟨tb, 0, none⟩) (0 + 1) tc) ms.length (ms.map (.int .i64))) := owns_ext hv9 (Ext.refl w6).drew
      have HI6 := Lib.hid ((hI.out.ext hx6).ext ((Ext.refl w6).drew))
      have HO6 := Lib.hid HI6.out.2.1
      have g0 := (block_cell HI6.out.1 (i := 0) rfl).1
      have g1 := (block_cell HI6.out.1 (i := 0) rfl).2
      have hbs := (Array.getElem?_eq_some_iff.1 HI6.out.1).1
      have HSZ := Lib.hid (show (bookTo s k).goods.length + 0 + 1 ≤ maxLen ∧ ((bookTo s k).goods.length + 0 + 1) * 8 ≤ 140737488355328 by
       have := HGL.out
       rw [bookTo_goods]; unfold maxLen; omega)
      have HX6 := Lib.hid (HX.out.trans hx6)
      clear hv9 hxx hx6 z1 y1 hln
      refine wp_region_noPanic ?_
      refine wp_region_any (by kernel_rfl) (wpAny_of_till (z := 9) (S := (fun w' => w'.cell? ⟨w4.heap.size, 0, none⟩ = some (.slice va (bookTo s k).goods.length vc) ∧ w'.frozen? ⟨w4.heap.size, 0, none⟩ = false ∧ w'.cell? ⟨tb, 0, none⟩ = some (.int .i64 x))) _ _ _ _ ?_)
      change wpTill _ _ _ _ _ _ _ _ _ w6.drew
      have hS0 := (show (World.drew w6).cell? ⟨w4.heap.size, 0, none⟩ = some (.slice va (bookTo s k).goods.length vc) ∧ (World.drew w6).frozen? ⟨w4.heap.size, 0, none⟩ = false ∧ (World.drew w6).cell? ⟨tb, 0, none⟩ = some (.int .i64 x) from ⟨g0, g1, d0⟩)
      refine till_at (i := 0) (d := some 50) (v := ?_) (by kernel_rfl) (by kernel_rfl) (by kernel_rfl) (by kernel_rfl) (by kernel_rfl) (fun _ _ _ h => h) (fun o ho => ?_) hS0 ?_
      rotate_left
      ·simp only [zA, zB, zD] at ho
       subst ho
       refine Or.inl ⟨by rfl, fun w' hSw => ?_⟩
       obtain ⟨hSw0, hSw1, hSw2⟩ := hSw
       go_simp
       try with_reducible rfl
      try simp only [Act.put, yA, yB, yC]
      refine till_at (i := 1) (d := some 51) (v := ?_) (by kernel_rfl) (by kernel_rfl) (by kernel_rfl) (by kernel_rfl) (by kernel_rfl) (fun _ _ _ h => h) (fun o ho => ?_) hS0 ?_
      rotate_left
      ·simp only [zA, zB, zC, zD] at ho
       subst ho
       refine Or.inl ⟨by rfl, fun w' hSw => ?_⟩
       obtain ⟨hSw0, hSw1, hSw2⟩ := hSw
       go_simp
       try with_reducible rfl
      try simp only [Act.put, yA, yB, yC]
      refine till_at (i := 2) (d := some 52) (v := ?_) (by kernel_rfl) (by kernel_rfl) (by kernel_rfl) (by kernel_rfl) (by kernel_rfl) (fun _ _ _ h => h) (fun o ho => ?_) hS0 ?_
      rotate_left
      ·simp only [zA, zB, zC, zD] at ho
       subst ho
       refine Or.inl ⟨by rfl, fun w' hSw => ?_⟩
       obtain ⟨hSw0, hSw1, hSw2⟩ := hSw
       go_simp
       try with_reducible rfl
      try simp only [Act.put, yA, yB, yC]
      refine till_at (i := 3) (d := some 53) (v := ?_) (by kernel_rfl) (by kernel_rfl) (by kernel_rfl) (by kernel_rfl) (by kernel_rfl) (fun _ _ _ h => h) (fun o ho => ?_) hS0 ?_
      rotate_left
      ·simp only [zA, zB, zC, zD] at ho
       subst ho
       refine Or.inl ⟨by rfl, fun w' hSw => ?_⟩
       obtain ⟨hSw0, hSw1, hSw2⟩ := hSw
       go_simp
       try with_reducible rfl
      try simp only [Act.put, yA, yB, yC]
      refine till_at (i := 4) (d := some 54) (v := ?_) (by kernel_rfl) (by kernel_rfl) (by kernel_rfl) (by kernel_rfl) (by kernel_rfl) (fun _ _ _ h => h) (fun o ho => ?_) hS0 ?_
      rotate_left
      ·simp only [zA, zB, zC, zD] at ho
       subst ho
       refine Or.inl ⟨by rfl, fun w' hSw => ?_⟩
       obtain ⟨hSw0, hSw1, hSw2⟩ := hSw
       go_simp
       try with_reducible rfl
      try simp only [Act.put, yA, yB, yC]
      refine till_at (i := 5) (d := some 55) (v := ?_) (by kernel_rfl) (by kernel_rfl) (by kernel_rfl) (by kernel_rfl) (by kernel_rfl) (fun _ _ _ h => h) (fun o ho => ?_) hS0 ?_
      rotate_left
      ·simp only [zA, zB, zC, zD] at ho
       subst ho
       refine Or.inl ⟨by rfl, fun w' hSw => ?_⟩
       obtain ⟨hSw0, hSw1, hSw2⟩ := hSw
       go_simp
       try with_reducible rfl
      try simp only [Act.put, yA, yB, yC]
      refine till_step (i := 6) (by kernel_rfl) (by kernel_rfl) (fun o ho K' hK => ?_)
      simp only [zA, zB, zC, zD] at ho
      subst ho
      go_simp
      have hS6 := (show ((World.drew w6).alloc (.cells #[.int .i64 x] 62)).cell? ⟨w4.heap.size, 0, none⟩ = some (.slice va (bookTo s k).goods.length vc) ∧ ((World.drew w6).alloc (.cells #[.int .i64 x] 62)).frozen? ⟨w4.heap.size, 0, none⟩ = false ∧ ((World.drew w6).alloc (.cells #[.int .i64 x] 62)).cell? ⟨tb, 0, none⟩ = some (.int .i64 x) from ⟨((Ext.refl _).alloc _).cell g0, (((Ext.refl _).alloc _).frozen hbs).trans g1, ((Ext.refl _).alloc _).cell (show (World.drew w6).cell? ⟨tb, 0, none⟩ = _ from d0)⟩)
      refine hK.out _ _ (fun _ => hS6) (fun _ => ?_)
      clear hK K'
      try simp only [Act.put, yA, yB, yC]
      refine till_step (i := 7) (by kernel_rfl) (by kernel_rfl) (fun o ho K' hK => ?_)
      simp only [zA, zB, zC, zD] at ho
      subst ho
      refine step_push_n E_goods (by rfl) _ _ (by rfl) (w4.heap.size + 1) (by rfl) HO6.out (q := 0) (by rfl) (by rfl) (by rfl) one_le_maxLen (by simp [Value.oneCell']) ?_ HSZ.out.1 HSZ.out.2 hbs
      intro g9 cap9 w9 hown9 hg9 hloc9
      have hx9 : Ext w4 w9 := (HX6.out.drew.alloc _).grown hg9 (fun q hq => by have := owns_block HO6.out q hq; omega)
      have HB9 := Lib.hid (kept_push hg9 HI6.out.1 (owns_block HO6.out) (Nat.lt_succ_self _))
      have HI9 := Lib.hid (ParI.good HI6.out hg9 hown9)
      have HX9 := Lib.hid hx9
      have d9 : w9.cell? ⟨tb, 0, none⟩ = some (.int .i64 x) := by rw [← HXX.out]; exact ints_at (owns_grown hg9 HV6.out (fun q hq e => owns_apart HV6.out HO6.out (by decide) q hq e)) (by rw [HLN.out]; omega)
      clear hown9 hg9 hloc9 hx9
      have hS7 := (show w9.cell? ⟨w4.heap.size, 0, none⟩ = some (.slice va (bookTo s k).goods.length vc) ∧ w9.frozen? ⟨w4.heap.size, 0, none⟩ = false ∧ w9.cell? ⟨tb, 0, none⟩ = some (.int .i64 x) from ⟨(block_cell HB9.out (i := 0) rfl).1, (block_cell HB9.out (i := 0) rfl).2, d9⟩)
      refine hK.out _ _ (fun _ => hS7) (fun _ => ?_)
      clear hK K'
      try simp only [Act.put, yA, yB, yC]
      refine till_at (i := 8) (d := some 58) (v := ?_) (by kernel_rfl) (by kernel_rfl) (by kernel_rfl) (by kernel_rfl) (by kernel_rfl) (fun _ _ _ h => h) (fun o ho => ?_) hS7 ?_
      rotate_left
      ·simp only [zA, zB, zC, zD] at ho
       subst ho
       refine Or.inl ⟨by rfl, fun w' hSw => ?_⟩
       obtain ⟨hSw0, hSw1, hSw2⟩ := hSw
       go_simp
       try with_reducible rfl
      try simp only [Act.put, yA, yB, yC]
      refine till_step (i := 9) (by kernel_rfl) (by kernel_rfl) (fun o ho K' hK => ?_)
      simp only [zA, zB, zC, zD] at ho
      subst ho
      go_simp
      refine hK.out _ _ (fun h => absurd rfl h) (fun _ => ?_)
      clear hK K'
      try simp only [Act.put, yA, yB, yC]
      refine till_done (by kernel_rfl) ?_ _
      refine NoPanic.normal ?_
      try simp only [Act.put, yA, yB, yC]
      go_wp2
      exact ⟨⟨k + 1, _, _, by omega, by go_num, by rw [HBS.out]; exact HI9.out, HMO.out, HX9.out.setCell (p := ⟨w4.heap.size, 0, none⟩) (Nat.le_refl _) _⟩, by simp [intOf]; omega⟩
    | false =>
     have HPR : Hid (∀ W, Calls Tryz.prog 107 #[strV (lineAt s (k + 1)), strV wGood] W fun e w' => e = .returned (.bool false) ∧ W = w') := fun W => by rw [← hb]; exact (pref_any _ _ W).mono fun _ _ h => ⟨h.1, h.2.symm⟩
     have HBS := Lib.hid (book_step_entry hb)
     cases q2 : toldOk wEntry 3 (lineAt s (k + 1)) with
     | false =>
      have HNO : Hid (isTextB s = false) := bad_mid HKM.out (by unfold midOk; rw [if_neg (by rw [hb]; decide)]; exact q2)
      have HT := Lib.hid (fun w1 hx => HTN.out (k + 1) wEntry 3 w1 ⟨by omega, by omega⟩ hx q2)
      clear q2 hb hx
      go_wp2_with (first
       | (go_at_call 107; refine (HPR.out _).mono ?_; rintro e w5 ⟨rfl, rfl⟩)
       | (go_at_call 106; refine (HT.out _ (HYW.out.trans HX.out)).mono ?_; rintro e w6 ⟨why, rfl, hx6⟩))
      exact ⟨rfl, .inr ⟨HNO.out, why, rfl, (HYW.out.trans HX.out).trans hx6⟩⟩
     | true =>
      have HT := Lib.hid (fun w1 hx => HTO.out (k + 1) wEntry 3 w1 ⟨by omega, by omega⟩ hx q2)
      have HMO : Hid (∀ j, j < k + 1 → midOk s j = true) := fun j hj => by
       by_cases e : j = k
       ·subst e; unfold midOk; rw [if_neg (by rw [hb]; decide)]; exact q2
       ·exact hall.out j (by omega)
      obtain ⟨hln, hsm, -⟩ := told_line q2
      obtain ⟨ms, hms⟩ : ∃ ms, toldN (lineAt s (k + 1)) = ms := ⟨_, rfl⟩
      rw [hms] at HT hln hsm HBS
      clear q2 hb hx hsm hms
      go_upto_region 13 with (first
       | (go_at_call 107; refine (HPR.out _).mono ?_; rintro e w5 ⟨rfl, rfl⟩)
       | (go_at_call 106; refine (HT.out _ (HYW.out.trans HX.out)).mono ?_; rintro e w6 ⟨v9, rfl, hx6, hv9⟩; obtain ⟨tb, tc, rfl⟩ := owns_succ (show w6.ownsRow wo.heap.size 3 1 v9 (2 + 1) _ from (show ms.length = 2 + 1 from hln) ▸ hv9)))
      have HC6 : Hid (∀ i, i < 3 → w6.cell? ⟨tb, i, none⟩ = some (.int .i64 (ms.getD i 0))) := fun i hi => ints_at (show w6.ownsRow wo.heap.size 3 1 (.slice (some ⟨tb, 0, none⟩) 3 tc) ms.length (ms.map (.int .i64)) from hv9) (by omega)
      have d0 := HC6.out 0 (by omega)
      have d1 := HC6.out 1 (by omega)
      have d2 := HC6.out 2 (by omega)
      obtain ⟨x, hxx⟩ : ∃ x : Int × Int × Int, x = (ms.getD 0 0, ms.getD 1 0, ms.getD 2 0) := ⟨_, rfl⟩
      have hx0 : ms.getD 0 0 = x.1 := by rw [hxx]
      have hx1 : ms.getD 1 0 = x.2.1 := by rw [hxx]
      have hx2 : ms.getD 2 0 = x.2.2 := by rw [hxx]
      rw [← hxx] at HBS
      rw [hx0] at d0
      rw [hx1] at d1
      rw [hx2] at d2
      have HXX := Lib.hid (And.intro hx0 (And.intro hx1 hx2))
      have HLN := Lib.hid hln
      have HV6 : Hid ((World.drew w6).ownsRow wo.heap.size 3 1 (.slice (some ⟨tb, 0, none⟩) (2 + 1) tc) ms.length (ms.map (.int .i64))) := owns_ext hv9 (Ext.refl w6).drew
      have HI6 := Lib.hid ((hI.out.ext hx6).ext ((Ext.refl w6).drew))
      have HO6 := Lib.hid HI6.out.2.2
      have g0 := (block_cell HI6.out.1 (i := 3) rfl).1
      have g1 := (block_cell HI6.out.1 (i := 3) rfl).2
      have hbs := (Array.getElem?_eq_some_iff.1 HI6.out.1).1
      have HSZ := Lib.hid (show (bookTo s k).entries.length + 0 + 1 ≤ maxLen ∧ ((bookTo s k).entries.length + 0 + 1) * 24 ≤ 140737488355328 by
       have := HGL.out
       rw [bookTo_entries]; unfold maxLen; omega)
      have HX6 := Lib.hid (HX.out.trans hx6)
      clear hv9 hxx hx6 z1 y1 y2 hln hx0 hx1 hx2
      refine wp_region_noPanic ?_
      refine wp_region_any (by kernel_rfl) (wpAny_of_till (z := 15) (S := (fun w' => w'.cell? ⟨w4.heap.size, 3, none⟩ = some (.slice ea (bookTo s k).entries.length ec) ∧ w'.frozen? ⟨w4.heap.size, 3, none⟩ = false ∧ w'.cell? ⟨tb, 0, none⟩ = some (.int .i64 x.1) ∧ w'.cell? ⟨tb, 1, none⟩ = some (.int .i64 x.2.1) ∧ w'.cell? ⟨tb, 2, none⟩ = some (.int .i64 x.2.2))) _ _ _ _ ?_)
      change wpTill _ _ _ _ _ _ _ _ _ w6.drew
      have hS0 := (show (World.drew w6).cell? ⟨w4.heap.size, 3, none⟩ = some (.slice ea (bookTo s k).entries.length ec) ∧ (World.drew w6).frozen? ⟨w4.heap.size, 3, none⟩ = false ∧ (World.drew w6).cell? ⟨tb, 0, none⟩ = some (.int .i64 x.1) ∧ (World.drew w6).cell? ⟨tb, 1, none⟩ = some (.int .i64 x.2.1) ∧ (World.drew w6).cell? ⟨tb, 2, none⟩ = some (.int .i64 x.2.2) from ⟨g0, g1, d0, d1, d2⟩)
      refine till_at (i := 0) (d := some 63) (v := ?_) (by kernel_rfl) (by kernel_rfl) (by kernel_rfl) (by kernel_rfl) (by kernel_rfl) (fun _ _ _ h => h) (fun o ho => ?_) hS0 ?_
      rotate_left
      ·simp only [zA, zB, zD] at ho
       subst ho
       refine Or.inl ⟨by rfl, fun w' hSw => ?_⟩
       obtain ⟨hSw0, hSw1, hSw2, hSw3, hSw4⟩ := hSw
       go_simp
       try with_reducible rfl
      try simp only [Act.put, yA, yB, yC]
      refine till_at (i := 1) (d := some 64) (v := ?_) (by kernel_rfl) (by kernel_rfl) (by kernel_rfl) (by kernel_rfl) (by kernel_rfl) (fun _ _ _ h => h) (fun o ho => ?_) hS0 ?_
      rotate_left
      ·simp only [zA, zB, zC, zD] at ho
       subst ho
       refine Or.inl ⟨by rfl, fun w' hSw => ?_⟩
       obtain ⟨hSw0, hSw1, hSw2, hSw3, hSw4⟩ := hSw
       go_simp
       try with_reducible rfl
      try simp only [Act.put, yA, yB, yC]
      refine till_at (i := 2) (d := some 65) (v := ?_) (by kernel_rfl) (by kernel_rfl) (by kernel_rfl) (by kernel_rfl) (by kernel_rfl) (fun _ _ _ h => h) (fun o ho => ?_) hS0 ?_
      rotate_left
      ·simp only [zA, zB, zC, zD] at ho
       subst ho
       refine Or.inl ⟨by rfl, fun w' hSw => ?_⟩
       obtain ⟨hSw0, hSw1, hSw2, hSw3, hSw4⟩ := hSw
       go_simp
       try with_reducible rfl
      try simp only [Act.put, yA, yB, yC]
      refine till_at (i := 3) (d := some 66) (v := ?_) (by kernel_rfl) (by kernel_rfl) (by kernel_rfl) (by kernel_rfl) (by kernel_rfl) (fun _ _ _ h => h) (fun o ho => ?_) hS0 ?_
      rotate_left
      ·simp only [zA, zB, zC, zD] at ho
       subst ho
       refine Or.inl ⟨by rfl, fun w' hSw => ?_⟩
       obtain ⟨hSw0, hSw1, hSw2, hSw3, hSw4⟩ := hSw
       go_simp
       try with_reducible rfl
      try simp only [Act.put, yA, yB, yC]
      refine till_at (i := 4) (d := some 67) (v := ?_) (by kernel_rfl) (by kernel_rfl) (by kernel_rfl) (by kernel_rfl) (by kernel_rfl) (fun _ _ _ h => h) (fun o ho => ?_) hS0 ?_
      rotate_left
      ·simp only [zA, zB, zC, zD] at ho
       subst ho
       refine Or.inl ⟨by rfl, fun w' hSw => ?_⟩
       obtain ⟨hSw0, hSw1, hSw2, hSw3, hSw4⟩ := hSw
       go_simp
       try with_reducible rfl
      try simp only [Act.put, yA, yB, yC]
      refine till_at (i := 5) (d := some 68) (v := ?_) (by kernel_rfl) (by kernel_rfl) (by kernel_rfl) (by kernel_rfl) (by kernel_rfl) (fun _ _ _ h => h) (fun o ho => ?_) hS0 ?_
      rotate_left
      ·simp only [zA, zB, zC, zD] at ho
       subst ho
       refine Or.inl ⟨by rfl, fun w' hSw => ?_⟩
       obtain ⟨hSw0, hSw1, hSw2, hSw3, hSw4⟩ := hSw
       go_simp
       try with_reducible rfl
      try simp only [Act.put, yA, yB, yC]
      refine till_at (i := 6) (d := some 69) (v := ?_) (by kernel_rfl) (by kernel_rfl) (by kernel_rfl) (by kernel_rfl) (by kernel_rfl) (fun _ _ _ h => h) (fun o ho => ?_) hS0 ?_
      rotate_left
      ·simp only [zA, zB, zC, zD] at ho
       subst ho
       refine Or.inl ⟨by rfl, fun w' hSw => ?_⟩
       obtain ⟨hSw0, hSw1, hSw2, hSw3, hSw4⟩ := hSw
       go_simp
       try with_reducible rfl
      try simp only [Act.put, yA, yB, yC]
      refine till_at (i := 7) (d := some 70) (v := ?_) (by kernel_rfl) (by kernel_rfl) (by kernel_rfl) (by kernel_rfl) (by kernel_rfl) (fun _ _ _ h => h) (fun o ho => ?_) hS0 ?_
      rotate_left
      ·simp only [zA, zB, zC, zD] at ho
       subst ho
       refine Or.inl ⟨by rfl, fun w' hSw => ?_⟩
       obtain ⟨hSw0, hSw1, hSw2, hSw3, hSw4⟩ := hSw
       go_simp
       try with_reducible rfl
      try simp only [Act.put, yA, yB, yC]
      refine till_at (i := 8) (d := some 71) (v := ?_) (by kernel_rfl) (by kernel_rfl) (by kernel_rfl) (by kernel_rfl) (by kernel_rfl) (fun _ _ _ h => h) (fun o ho => ?_) hS0 ?_
      rotate_left
      ·simp only [zA, zB, zC, zD] at ho
       subst ho
       refine Or.inl ⟨by rfl, fun w' hSw => ?_⟩
       obtain ⟨hSw0, hSw1, hSw2, hSw3, hSw4⟩ := hSw
       go_simp
       try with_reducible rfl
      try simp only [Act.put, yA, yB, yC]
      refine till_at (i := 9) (d := some 72) (v := ?_) (by kernel_rfl) (by kernel_rfl) (by kernel_rfl) (by kernel_rfl) (by kernel_rfl) (fun _ _ _ h => h) (fun o ho => ?_) hS0 ?_
      rotate_left
      ·simp only [zA, zB, zC, zD] at ho
       subst ho
       refine Or.inl ⟨by rfl, fun w' hSw => ?_⟩
       obtain ⟨hSw0, hSw1, hSw2, hSw3, hSw4⟩ := hSw
       go_simp
       try with_reducible rfl
      try simp only [Act.put, yA, yB, yC]
      refine till_at (i := 10) (d := some 73) (v := ?_) (by kernel_rfl) (by kernel_rfl) (by kernel_rfl) (by kernel_rfl) (by kernel_rfl) (fun _ _ _ h => h) (fun o ho => ?_) hS0 ?_
      rotate_left
      ·simp only [zA, zB, zC, zD] at ho
       subst ho
       refine Or.inl ⟨by rfl, fun w' hSw => ?_⟩
       obtain ⟨hSw0, hSw1, hSw2, hSw3, hSw4⟩ := hSw
       go_simp
       try with_reducible rfl
      try simp only [Act.put, yA, yB, yC]
      refine till_at (i := 11) (d := some 74) (v := ?_) (by kernel_rfl) (by kernel_rfl) (by kernel_rfl) (by kernel_rfl) (by kernel_rfl) (fun _ _ _ h => h) (fun o ho => ?_) hS0 ?_
      rotate_left
      ·simp only [zA, zB, zC, zD] at ho
       subst ho
       refine Or.inl ⟨by rfl, fun w' hSw => ?_⟩
       obtain ⟨hSw0, hSw1, hSw2, hSw3, hSw4⟩ := hSw
       go_simp
       try with_reducible rfl
      try simp only [Act.put, yA, yB, yC]
      refine till_step (i := 12) (by kernel_rfl) (by kernel_rfl) (fun o ho K' hK => ?_)
      simp only [zA, zB, zC, zD] at ho
      subst ho
      go_simp
      have hS12 := (show ((World.drew w6).alloc (.cells #[.int .i64 x.1, .int .i64 x.2.1, .int .i64 x.2.2] 64)).cell? ⟨w4.heap.size, 3, none⟩ = some (.slice ea (bookTo s k).entries.length ec) ∧ ((World.drew w6).alloc (.cells #[.int .i64 x.1, .int .i64 x.2.1, .int .i64 x.2.2] 64)).frozen? ⟨w4.heap.size, 3, none⟩ = false ∧ ((World.drew w6).alloc (.cells #[.int .i64 x.1, .int .i64 x.2.1, .int .i64 x.2.2] 64)).cell? ⟨tb, 0, none⟩ = some (.int .i64 x.1) ∧ ((World.drew w6).alloc (.cells #[.int .i64 x.1, .int .i64 x.2.1, .int .i64 x.2.2] 64)).cell? ⟨tb, 1, none⟩ = some (.int .i64 x.2.1) ∧ ((World.drew w6).alloc (.cells #[.int .i64 x.1, .int .i64 x.2.1, .int .i64 x.2.2] 64)).cell? ⟨tb, 2, none⟩ = some (.int .i64 x.2.2) from ⟨((Ext.refl _).alloc _).cell g0, (((Ext.refl _).alloc _).frozen hbs).trans g1, ((Ext.refl _).alloc _).cell (show (World.drew w6).cell? ⟨tb, 0, none⟩ = _ from d0), ((Ext.refl _).alloc _).cell (show (World.drew w6).cell? ⟨tb, 1, none⟩ = _ from d1), ((Ext.refl _).alloc _).cell (show (World.drew w6).cell? ⟨tb, 2, none⟩ = _ from d2)⟩)
      refine hK.out _ _ (fun _ => hS12) (fun _ => ?_)
      clear hK K'
      try simp only [Act.put, yA, yB, yC]
      refine till_step (i := 13) (by kernel_rfl) (by kernel_rfl) (fun o ho K' hK => ?_)
      simp only [zA, zB, zC, zD] at ho
      subst ho
      refine step_push_n E_entries (by rfl) _ _ (by rfl) (w4.heap.size + 1) (by rfl) HO6.out (q := 0) (by rfl) (by rfl) (by rfl) one_le_maxLen (by simp [Value.oneCell']) ?_ HSZ.out.1 HSZ.out.2 hbs
      intro g9 cap9 w9 hown9 hg9 hloc9
      have hx9 : Ext w4 w9 := (HX6.out.drew.alloc _).grown hg9 (fun q hq => by have := owns_block HO6.out q hq; omega)
      have HB9 := Lib.hid (kept_push hg9 HI6.out.1 (owns_block HO6.out) (Nat.lt_succ_self _))
      have HI9 := Lib.hid (ParI.entry HI6.out hg9 hown9)
      have HX9 := Lib.hid hx9
      have hv9 := owns_grown hg9 HV6.out (fun q hq e => owns_apart HV6.out HO6.out (by decide) q hq e)
      have e0 : w9.cell? ⟨tb, 0, none⟩ = some (.int .i64 x.1) := by rw [← HXX.out.1]; exact ints_at hv9 (by rw [HLN.out]; omega)
      have e1 : w9.cell? ⟨tb, 1, none⟩ = some (.int .i64 x.2.1) := by rw [← HXX.out.2.1]; exact ints_at hv9 (by rw [HLN.out]; omega)
      have e2 : w9.cell? ⟨tb, 2, none⟩ = some (.int .i64 x.2.2) := by rw [← HXX.out.2.2]; exact ints_at hv9 (by rw [HLN.out]; omega)
      clear hown9 hg9 hloc9 hx9
      have hS13 := (show w9.cell? ⟨w4.heap.size, 3, none⟩ = some (.slice ea (bookTo s k).entries.length ec) ∧ w9.frozen? ⟨w4.heap.size, 3, none⟩ = false ∧ w9.cell? ⟨tb, 0, none⟩ = some (.int .i64 x.1) ∧ w9.cell? ⟨tb, 1, none⟩ = some (.int .i64 x.2.1) ∧ w9.cell? ⟨tb, 2, none⟩ = some (.int .i64 x.2.2) from ⟨(block_cell HB9.out (i := 3) rfl).1, (block_cell HB9.out (i := 3) rfl).2, e0, e1, e2⟩)
      refine hK.out _ _ (fun _ => hS13) (fun _ => ?_)
      clear hK K'
      try simp only [Act.put, yA, yB, yC]
      refine till_at (i := 14) (d := some 77) (v := ?_) (by kernel_rfl) (by kernel_rfl) (by kernel_rfl) (by kernel_rfl) (by kernel_rfl) (fun _ _ _ h => h) (fun o ho => ?_) hS13 ?_
      rotate_left
      ·simp only [zA, zB, zC, zD] at ho
       subst ho
       refine Or.inl ⟨by rfl, fun w' hSw => ?_⟩
       obtain ⟨hSw0, hSw1, hSw2, hSw3, hSw4⟩ := hSw
       go_simp
       try with_reducible rfl
      try simp only [Act.put, yA, yB, yC]
      refine till_step (i := 15) (by kernel_rfl) (by kernel_rfl) (fun o ho K' hK => ?_)
      simp only [zA, zB, zC, zD] at ho
      subst ho
      go_simp
      refine hK.out _ _ (fun h => absurd rfl h) (fun _ => ?_)
      clear hK K'
      try simp only [Act.put, yA, yB, yC]
      refine till_done (by kernel_rfl) ?_ _
      refine NoPanic.normal ?_
      try simp only [Act.put, yA, yB, yC]
      go_wp2
      exact ⟨⟨k + 1, _, _, by omega, by go_num, by rw [HBS.out]; exact HI9.out, HMO.out, HX9.out.setCell (p := ⟨w4.heap.size, 3, none⟩) (Nat.le_refl _) _⟩, by simp [intOf]; omega⟩
   ·have x1 : decide ((k : Int) < (N : Int)) = false := by simpa using hlt
    have hkn : k = N := by omega
    subst hkn
    have HBO : Hid (bookTo s k = bookOf s) := by unfold Hid bookOf; rw [HN.out]
    rw [HBO.out] at hI
    have HTS : Hid (TextSmall (bookOf s)) := book_small HQ0.out hs (fun j hj => hall.out j (by rw [HN.out] at hj; exact hj))
    have HLO : Hid (linesOk s = true) := by
     unfold Hid linesOk
     rw [HQ0.out, decide_eq_true (by rw [HPC.out]; omega), Bool.true_and, Bool.true_and, List.all_eq_true]
     intro j hj
     rw [List.mem_range, HN.out] at hj
     exact hall.out j hj
    obtain ⟨va, vc, rfl, _⟩ := RowAt.open (RowAt.of_owns hI.out.2.1)
    obtain ⟨ea, ec, rfl, _⟩ := RowAt.open (RowAt.of_owns hI.out.2.2)
    have HTC := Lib.hid (HTX.out _ (bookOf s) wo (HYW.out.trans hx) hI.out.book HTS.out)
    have p0 := (block_cell hI.out.1 (i := 0) rfl).1
    have p1 := (block_cell hI.out.1 (i := 1) rfl).1
    have p2 := (block_cell hI.out.1 (i := 2) rfl).1
    have p3 := (block_cell hI.out.1 (i := 3) rfl).1
    have HZW := Lib.hid ((((HX4.out).trans hx).block (Array.getElem?_eq_some_iff.1 HZ1.out).1).trans HZ1.out)
    have HX := Lib.hid (HYW.out.trans hx)
    clear hx
    by_cases hq : textT (bookOf s) = s
    ·have HYES : Hid (isTextB s = true) := by unfold Hid isTextB; rw [HLO.out, decide_eq_true hq]; rfl
     rw [hq] at HTC
     clear hq
     have hw4 := HYW.out.size
     go_wp2_with (first
      | (go_at_call 108; refine HTC.out.mono ?_; rintro e w8 ⟨rfl, hx8⟩; have HI8 := Lib.hid (hI.out.ext hx8); have p0' := hx8.cell p0; have p1' := hx8.cell p1; have p2' := hx8.cell p2; have p3' := hx8.cell p3; have hz8 := (hx8.block (Array.getElem?_eq_some_iff.1 HZW.out).1).trans HZW.out; obtain ⟨zz0, f0⟩ := block_cell hz8 (i := 0) rfl; obtain ⟨zz1, f1⟩ := block_cell hz8 (i := 1) rfl; obtain ⟨zz2, f2⟩ := block_cell hz8 (i := 2) rfl; obtain ⟨zz3, f3⟩ := block_cell hz8 (i := 3) rfl; have HX8 := Lib.hid hx8; have HZ8 := Lib.hid hz8; clear p0 p1 p2 p3 hz8 hx8)
      | (go_at_call 104; refine (HSU.out _ _).mono ?_; rintro e w9 ⟨rfl, rfl⟩))
     have hb4 := setCell_block (i := 3) (v := .slice ea (bookOf s).entries.length ec) (setCell_block (i := 2) (v := .int .i64 (bookOf s).moves) (setCell_block (i := 1) (v := .int .i64 (bookOf s).editions) (setCell_block (i := 0) (v := .slice va (bookOf s).goods.length vc) HZ8.out)))
     obtain ⟨r0, -⟩ := block_cell hb4 (i := 0) rfl
     obtain ⟨r1, -⟩ := block_cell hb4 (i := 1) rfl
     obtain ⟨r2, -⟩ := block_cell hb4 (i := 2) rfl
     obtain ⟨r3, -⟩ := block_cell hb4 (i := 3) rfl
     have HEX : Hid (Ext w ((((w9.setCell ⟨w.heap.size, 0, none⟩ (.slice va (bookOf s).goods.length vc)).setCell ⟨w.heap.size, 1, none⟩ (.int .i64 (bookOf s).editions)).setCell ⟨w.heap.size, 2, none⟩ (.int .i64 (bookOf s).moves)).setCell ⟨w.heap.size, 3, none⟩ (.slice ea (bookOf s).entries.length ec))) :=
      ((((HX.out.trans HX8.out).setCell (p := ⟨w.heap.size, 0, none⟩) (Nat.le_refl _) _).setCell (p := ⟨w.heap.size, 1, none⟩) (Nat.le_refl _) _).setCell (p := ⟨w.heap.size, 2, none⟩) (Nat.le_refl _) _).setCell (p := ⟨w.heap.size, 3, none⟩) (Nat.le_refl _) _
     have hT : Touch (· = w.heap.size) w9 ((((w9.setCell ⟨w.heap.size, 0, none⟩ (.slice va (bookOf s).goods.length vc)).setCell ⟨w.heap.size, 1, none⟩ (.int .i64 (bookOf s).editions)).setCell ⟨w.heap.size, 2, none⟩ (.int .i64 (bookOf s).moves)).setCell ⟨w.heap.size, 3, none⟩ (.slice ea (bookOf s).entries.length ec)) :=
      (((Touch.setCell (M := (· = w.heap.size)) (a := ⟨w.heap.size, 0, none⟩) _ rfl).trans (Touch.setCell (a := ⟨w.heap.size, 1, none⟩) _ rfl)).trans (Touch.setCell (a := ⟨w.heap.size, 2, none⟩) _ rfl)).trans (Touch.setCell (a := ⟨w.heap.size, 3, none⟩) _ rfl)
     have HR1 := Lib.hid (owns_lowr (owns_touch HI8.out.2.1 hT (fun g hg e => by have := owns_block HI8.out.2.1 g hg; omega)) (show w.heap.size + 1 ≤ w4.heap.size + 1 by omega))
     have HR2 := Lib.hid (owns_lowr (owns_touch HI8.out.2.2 hT (fun g hg e => by have := owns_block HI8.out.2.2 g hg; omega)) (show w.heap.size + 1 ≤ w4.heap.size + 1 by omega))
     generalize (((w9.setCell ⟨w.heap.size, 0, none⟩ (.slice va (bookOf s).goods.length vc)).setCell ⟨w.heap.size, 1, none⟩ (.int .i64 (bookOf s).editions)).setCell ⟨w.heap.size, 2, none⟩ (.int .i64 (bookOf s).moves)).setCell ⟨w.heap.size, 3, none⟩ (.slice ea (bookOf s).entries.length ec) = WF at *
     refine bodyPost_ret (v := .agg #[.slice va (bookOf s).goods.length vc, .int .i64 (bookOf s).editions, .int .i64 (bookOf s).moves, .slice ea (bookOf s).entries.length ec]) (by simp [results, Tryz.results76, go_sem, r0, r1, r2, r3]) rfl ?_
     exact .inl ⟨HYES.out, _, _, rfl, HEX.out, HR1.out, HR2.out⟩
    ·have HNO : Hid (isTextB s = false) := by unfold Hid isTextB; rw [decide_eq_false hq, Bool.and_false]
     have q1 : decide (textT (bookOf s) = s) = false := by simpa using hq
     have q2 : (textT (bookOf s) == s) = false := by simpa using hq
     clear hq
     generalize textT (bookOf s) = tt at *
     go_wp2_with (first
      | (go_at_call 108; refine HTC.out.mono ?_; rintro e w8 ⟨rfl, hx8⟩; have HX8 := Lib.hid hx8; clear hx8)
      | (go_at_call 104; refine (HSN.out _ _).mono ?_; rintro e w9 ⟨why, rfl, hx9⟩))
     exact ⟨rfl, .inr ⟨HNO.out, why, rfl, (HX.out.trans HX8.out).trans hx9⟩⟩
theorem parsed_any (s : List UInt8) (w : World) (ht : TabOk w) (hm : MaxOk w) (hs : s.length ≤ 300) : Calls Tryz.prog 76 #[strV s] w (ParPost s w) := by
 by_cases h : 3 ≤ (splitL 10 s).length
 ·exact parsed_main s w ht hm hs h
 ·exact parsed_few s w hm hs (by omega)
end Go.Proofs.YtokananogogjaaaGreatDoor

/- Read: the book of a text, or the errors. -/
namespace Go.Proofs.YtokananogogjaaaGreatDoor
open Go.RowKit
abbrev zeroBk : Value := .agg #[.slice none 0 0, .int .i64 0, .int .i64 0, .slice none 0 0]
abbrev zeroBox : Obj := .cells #[.slice none 0 0, .int .i64 0, .int .i64 0, .slice none 0 0] 25
abbrev store4 (W : World) (k : Nat) (a0 a1 a2 a3 : Value) : World := (((W.setCell ⟨k, 0, none⟩ a0).setCell ⟨k, 1, none⟩ a1).setCell ⟨k, 2, none⟩ a2).setCell ⟨k, 3, none⟩ a3
theorem store4_block {W : World} {k : Nat} {z0 z1 z2 z3 : Value} (h : W.heap[k]? = some (.cells #[z0, z1, z2, z3] 25 (0, 0))) (a0 a1 a2 a3 : Value) : (store4 W k a0 a1 a2 a3).heap[k]? = some (.cells #[a0, a1, a2, a3] 25 (0, 0)) :=
 setCell_block (i := 3) (v := a3) (setCell_block (i := 2) (v := a2) (setCell_block (i := 1) (v := a1) (setCell_block (i := 0) (v := a0) h)))
theorem store4_touch (W : World) (k : Nat) (a0 a1 a2 a3 : Value) : Touch (· = k) W (store4 W k a0 a1 a2 a3) :=
 (((Touch.setCell (M := (· = k)) (a := ⟨k, 0, none⟩) _ rfl).trans (Touch.setCell (a := ⟨k, 1, none⟩) _ rfl)).trans (Touch.setCell (a := ⟨k, 2, none⟩) _ rfl)).trans (Touch.setCell (a := ⟨k, 3, none⟩) _ rfl)
theorem store4_ext {w W : World} {k : Nat} (h : Ext w W) (hk : w.heap.size ≤ k) (a0 a1 a2 a3 : Value) : Ext w (store4 W k a0 a1 a2 a3) :=
 (((h.setCell (p := ⟨k, 0, none⟩) hk _).setCell (p := ⟨k, 1, none⟩) hk _).setCell (p := ⟨k, 2, none⟩) hk _).setCell (p := ⟨k, 3, none⟩) hk _
theorem block4 {W : World} {k : Nat} {z0 z1 z2 z3 : Value} (h : W.heap[k]? = some (.cells #[z0, z1, z2, z3] 25 (0, 0))) : (W.cell? ⟨k, 0, none⟩ = some z0 ∧ W.cell? ⟨k, 1, none⟩ = some z1 ∧ W.cell? ⟨k, 2, none⟩ = some z2 ∧ W.cell? ⟨k, 3, none⟩ = some z3) ∧ W.frozen? ⟨k, 0, none⟩ = false ∧ W.frozen? ⟨k, 1, none⟩ = false ∧ W.frozen? ⟨k, 2, none⟩ = false ∧ W.frozen? ⟨k, 3, none⟩ = false :=
 ⟨⟨(block_cell h (i := 0) rfl).1, (block_cell h (i := 1) rfl).1, (block_cell h (i := 2) rfl).1, (block_cell h (i := 3) rfl).1⟩, (block_cell h (i := 0) rfl).2, (block_cell h (i := 1) rfl).2, (block_cell h (i := 2) rfl).2, (block_cell h (i := 3) rfl).2⟩
theorem enters_read1 : ∀ args w, (callFunc 75 args).run Tryz.prog w = .ok (.enter 75 args) w := enters_of Tryz.func75 (by kernel_rfl) rfl
set_option maxRecDepth 100000 in
set_option maxHeartbeats 4000000 in
theorem read1_yes (s : List UInt8) (sb ob : Nat) (w : World) (ht : TabOk w) (hm : MaxOk w) (hs : s.length ≤ 300) (c0 : w.cell? ⟨sb, 0, none⟩ = some (strV s)) (h1 : w.heap[ob]? = some zeroBox) (h : isTextB s = true) :
 Calls Tryz.prog 75 #[.pointer (some ⟨sb, 0, none⟩), .pointer (some ⟨ob, 0, none⟩)] w fun e w' => e = .returned (.tuple #[]) ∧ ∃ w2 gv ev, Ext w w2 ∧ w2.ownsRow (w.heap.size + 1) 62 1 gv (bookOf s).goods.length ((bookOf s).goods.map (.int .i64)) ∧ w2.ownsRow (w.heap.size + 1) 64 3 ev (bookOf s).entries.length ((bookOf s).entries.flatMap entryC) ∧
  w' = store4 w2 ob gv (.int .i64 (bookOf s).editions) (.int .i64 (bookOf s).moves) ev := by
 have HP := Lib.hid ((parsed_any s w ht hm hs).mono (R' := fun e w' => ∃ gv ev, e = .returned (.agg #[gv, .int .i64 (bookOf s).editions, .int .i64 (bookOf s).moves, ev]) ∧ Ext w w' ∧ w'.ownsRow (w.heap.size + 1) 62 1 gv (bookOf s).goods.length ((bookOf s).goods.map (.int .i64)) ∧ w'.ownsRow (w.heap.size + 1) 64 3 ev (bookOf s).entries.length ((bookOf s).entries.flatMap entryC)) (fun e w' hh => hh.elim (fun q => q.2) (fun q => by rw [h] at q; cases q.1)))
 have HX := Lib.hid (fun (w2 : World) (hx : Ext w w2) => block4 ((hx.block (Array.getElem?_eq_some_iff.1 h1).1).trans h1))
 clear ht hm h h1
 go_enter Tryz.func75, Tryz.ntmps75
 go_wp2_with (go_at_call 76; refine HP.out.mono ?_; rintro e w2 ⟨gv, ev, rfl, hx2, ho1, ho2⟩; obtain ⟨⟨k0, k1, k2, k3⟩, f0, f1, f2, f3⟩ := HX.out _ hx2; have HO := Lib.hid (And.intro ho1 ho2); obtain ⟨ga, gc, rfl, _⟩ := RowAt.open (RowAt.of_owns ho1); obtain ⟨ea, ec, rfl, _⟩ := RowAt.open (RowAt.of_owns ho2); clear ho1 ho2)
 go_end0
 exact ⟨rfl, _, _, _, hx2, HO.out.1, HO.out.2, rfl⟩
set_option maxRecDepth 100000 in
set_option maxHeartbeats 4000000 in
theorem read1_no (s : List UInt8) (sb ob : Nat) (w : World) (ht : TabOk w) (hm : MaxOk w) (hs : s.length ≤ 300) (c0 : w.cell? ⟨sb, 0, none⟩ = some (strV s)) (h : isTextB s = false) :
 Calls Tryz.prog 75 #[.pointer (some ⟨sb, 0, none⟩), .pointer (some ⟨ob, 0, none⟩)] w (NoneP w) := by
 have HP := Lib.hid ((parsed_any s w ht hm hs).mono (R' := NoneP w) (fun e w' hh => hh.elim (fun q => by rw [h] at q; cases q.1) (fun q => q.2)))
 clear ht hm h
 go_enter Tryz.func75, Tryz.ntmps75
 go_wp2_with (go_at_call 76; refine HP.out.mono ?_; rintro e w2 ⟨why, rfl, hx2⟩)
 exact ⟨rfl, why, rfl, hx2⟩
/-- What Read answers. -/
def ReadRes (s : List UInt8) (w : World) (e : Ending) (w' : World) : Prop := ∃ (v : Value) (err : Int), e = .returned (.tuple #[v, .int .i64 err]) ∧ Ext w w' ∧ (300 < s.length → v = zeroBk ∧ err = 3) ∧ (s.length ≤ 300 → isTextB s = false → v = zeroBk ∧ err = 4) ∧
 (s.length ≤ 300 → isTextB s = true → (isBookB (bookOf s) = true → err = 0 ∧ BookAt w' v (bookOf s)) ∧ (isBookB (bookOf s) = false → err = 2 ∧ v = zeroBk))
set_option maxRecDepth 100000 in
set_option maxHeartbeats 4000000 in
theorem read_long (s : List UInt8) (w : World) (hs : 300 < s.length) (hs2 : s.length ≤ 2000000) : Calls Tryz.prog 38 #[strV s] w (ReadRes s w) := by
 obtain ⟨W, HW⟩ : ∃ W, Hid (W = (w.alloc (.cells #[strV s] 9)).alloc zeroBox) := ⟨_, rfl⟩
 have HX := Lib.hid (show Ext w W by rw [HW.out]; exact ((Ext.refl w).alloc _).alloc _)
 have HB := Lib.hid (show W.heap[w.heap.size + 1]? = some zeroBox by rw [HW.out]; have := World.alloc_heap_new (w.alloc (.cells #[strV s] 9)) zeroBox; rwa [World.size_alloc] at this)
 have c0 : W.cell? ⟨w.heap.size, 0, none⟩ = some (strV s) := by rw [HW.out]; go_simp
 obtain ⟨⟨a0, a1, a2, a3⟩, f0, f1, f2, f3⟩ := block4 HB.out
 have t1 : decide ((300 : Int) < (s.length : Int)) = true := by simp; omega
 have t2 : decide (300 < s.length) = true := by simpa using hs
 have HS := Lib.hid hs
 clear hs
 go_enter Tryz.func38, Tryz.ntmps38
 go_upto_region 1 with fail
 rw [← HW.out]
 go_wp2
 obtain ⟨⟨r0, r1, r2, r3⟩, -⟩ := block4 (store4_block HB.out (.slice none 0 0) (.int .i64 0) (.int .i64 0) (.slice none 0 0))
 refine bodyPost_ret (v := .tuple #[zeroBk, .int .i64 3]) (by simp only [store4] at r0 r1 r2 r3; simp [results, Tryz.results38, go_sem, r0, r1, r2, r3]) rfl ?_
 exact ⟨_, _, rfl, store4_ext HX.out (by omega) _ _ _ _, fun _ => ⟨rfl, rfl⟩, fun h => by have := HS.out; omega, fun h => by have := HS.out; omega⟩
abbrev bootW (s : List UInt8) (w : World) : World := ((w.alloc (.cells #[strV s] 9)).alloc zeroBox).alloc zeroBox
theorem boot_facts (s : List UInt8) (w : World) : Ext w (bootW s w) ∧ (bootW s w).heap.size = w.heap.size + 3 ∧ (bootW s w).cell? ⟨w.heap.size, 0, none⟩ = some (strV s) ∧ (bootW s w).heap[w.heap.size + 1]? = some zeroBox ∧ (bootW s w).heap[w.heap.size + 1 + 1]? = some zeroBox := by
 have h1 := World.alloc_heap_new (w.alloc (.cells #[strV s] 9)) zeroBox
 have h2 := World.alloc_heap_new ((w.alloc (.cells #[strV s] 9)).alloc zeroBox) zeroBox
 rw [World.size_alloc] at h1
 rw [World.size_alloc, World.size_alloc] at h2
 refine ⟨(((Ext.refl w).alloc _).alloc _).alloc _, by simp, by go_simp, ?_, h2⟩
 exact (Ext.block ((Ext.refl ((w.alloc (.cells #[strV s] 9)).alloc zeroBox)).alloc zeroBox) (b := w.heap.size + 1) (by simp)).trans h1
set_option maxRecDepth 100000 in
set_option maxHeartbeats 4000000 in
theorem read_none (s : List UInt8) (w : World) (ht : TabOk w) (hm : MaxOk w) (hs : s.length ≤ 300) (hno : isTextB s = false) : Calls Tryz.prog 38 #[strV s] w (ReadRes s w) := by
 have hmf : ∀ (fn : Fn) (first cap : Array Value) (w : World), (Instr.makeFunc fn first cap).run Tryz.prog w = .ok (.func fn first cap) w := fun _ _ _ _ => rfl
 obtain ⟨W, HW⟩ : ∃ W, Hid (W = bootW s w) := ⟨_, rfl⟩
 obtain ⟨hx, hsz, c0, hb1, hb2⟩ := boot_facts s w
 rw [← HW.out] at hx hsz c0 hb1 hb2
 have HTR := Lib.hid (try_none 75 #[.pointer (some ⟨w.heap.size, 0, none⟩), .pointer (some ⟨w.heap.size + 1 + 1, 0, none⟩)] W (fun w' => Ext (tryW W) w') enters_read1
  ((read1_no s w.heap.size (w.heap.size + 1 + 1) (tryW W) ((ht.ext hx).ext ((Ext.refl W).alloc _)) ((hm.ext hx).ext ((Ext.refl W).alloc _)) hs (((Ext.refl W).alloc _).cell c0) hno).mono (fun e w' hh => by
   obtain ⟨why, rfl, hh⟩ := hh
   exact ⟨⟨why, rfl⟩, hh.cell (by go_simp), (hh.frozen (by simp)).trans (by go_simp), hh⟩)))
 have HX := Lib.hid hx
 have HB1 := Lib.hid hb1
 have HSZ := Lib.hid hsz
 have t1 : decide ((300 : Int) < (s.length : Int)) = false := by simp; omega
 have t2 : decide (300 < s.length) = false := by simp; omega
 have HS := Lib.hid (And.intro hs hno)
 have c0a : (w.alloc (.cells #[strV s] 9)).cell? ⟨w.heap.size, 0, none⟩ = some (strV s) := by go_simp
 clear hx hsz hb1 hb2 hno hs
 go_enter Tryz.func38, Tryz.ntmps38
 go_upto_region 4 with fail
 rw [show ((w.alloc (.cells #[strV s] 9)).alloc zeroBox).alloc zeroBox = W from HW.out.symm]
 go_upto_region 6 with (go_at_call 74; refine HTR.out.mono ?_; rintro e w4 ⟨rfl, w3, why, hx3, rfl⟩)
 obtain ⟨WE, hWE⟩ : ∃ WE, WE = (w3.alloc (.cells #[.string why] 166)).setCell ⟨W.heap.size, 0, none⟩ (.int .i64 4) := ⟨_, rfl⟩
 have hxE : Ext W WE := by rw [hWE]; exact ((((Ext.refl W).alloc _).trans hx3).alloc _).setCell (p := ⟨W.heap.size, 0, none⟩) (Nat.le_refl _) _
 rw [← hWE]
 clear hWE
 have HXE := Lib.hid (HX.out.trans hxE)
 have HBE := Lib.hid ((hxE.block (Array.getElem?_eq_some_iff.1 HB1.out).1).trans HB1.out)
 obtain ⟨⟨a0, a1, a2, a3⟩, f0, f1, f2, f3⟩ := block4 HBE.out
 clear hxE hx3
 go_wp2
 obtain ⟨⟨r0, r1, r2, r3⟩, -⟩ := block4 (store4_block HBE.out (.slice none 0 0) (.int .i64 0) (.int .i64 0) (.slice none 0 0))
 refine bodyPost_ret (v := .tuple #[zeroBk, .int .i64 4]) (by simp only [store4] at r0 r1 r2 r3; simp [results, Tryz.results38, go_sem, r0, r1, r2, r3]) rfl ?_
 exact ⟨_, _, rfl, store4_ext HXE.out (by omega) _ _ _ _, fun h => (by have := HS.out.1; omega), fun _ _ => ⟨rfl, rfl⟩, fun _ h => by rw [HS.out.2] at h; cases h⟩
set_option maxRecDepth 100000 in
set_option maxHeartbeats 8000000 in
theorem read_yes (s : List UInt8) (w : World) (ht : TabOk w) (hm : MaxOk w) (hs : s.length ≤ 300) (hyes : isTextB s = true) : Calls Tryz.prog 38 #[strV s] w (ReadRes s w) := by
 have hmf : ∀ (fn : Fn) (first cap : Array Value) (w : World), (Instr.makeFunc fn first cap).run Tryz.prog w = .ok (.func fn first cap) w := fun _ _ _ _ => rfl
 obtain ⟨W, HW⟩ : ∃ W, Hid (W = bootW s w) := ⟨_, rfl⟩
 obtain ⟨hx, hsz, c0, hb1, hb2⟩ := boot_facts s w
 rw [← HW.out] at hx hsz c0 hb1 hb2
 have hO := (Array.getElem?_eq_some_iff.1 hb2).1
 have HTR := Lib.hid (try_ok 75 #[.pointer (some ⟨w.heap.size, 0, none⟩), .pointer (some ⟨w.heap.size + 1 + 1, 0, none⟩)] W (fun w' => ∃ w2 gv ev, Ext (tryW W) w2 ∧ w2.ownsRow (W.heap.size + 1) 62 1 gv (bookOf s).goods.length ((bookOf s).goods.map (.int .i64)) ∧ w2.ownsRow (W.heap.size + 1) 64 3 ev (bookOf s).entries.length ((bookOf s).entries.flatMap entryC) ∧
   w' = store4 w2 (w.heap.size + 1 + 1) gv (.int .i64 (bookOf s).editions) (.int .i64 (bookOf s).moves) ev) enters_read1
  ((read1_yes s w.heap.size (w.heap.size + 1 + 1) (tryW W) ((ht.ext hx).ext ((Ext.refl W).alloc _)) ((hm.ext hx).ext ((Ext.refl W).alloc _)) hs (((Ext.refl W).alloc _).cell c0) ((((Ext.refl W).alloc _).block hO).trans hb2) hyes).mono (fun e w' hh => by
   obtain ⟨rfl, w2, gv, ev, hx2, ho1, ho2, rfl⟩ := hh
   have hT := store4_touch w2 (w.heap.size + 1 + 1) gv (.int .i64 (bookOf s).editions) (.int .i64 (bookOf s).moves) ev
   have hne : ¬ W.heap.size = w.heap.size + 1 + 1 := by omega
   have hc : w2.cell? ⟨W.heap.size, 0, none⟩ = some (.int .i64 0) := hx2.cell (by go_simp)
   have hf : w2.frozen? ⟨W.heap.size, 0, none⟩ = false := (hx2.frozen (by simp)).trans (by go_simp)
   exact ⟨rfl, hT.cell hc hne, (hT.frozen hc hne).trans hf, w2, gv, ev, hx2, owns_lowr ho1 (by simp), owns_lowr ho2 (by simp), rfl⟩)))
 have HX := Lib.hid hx
 have HB1 := Lib.hid hb1
 have HB2 := Lib.hid hb2
 have HSZ := Lib.hid hsz
 have HIB := Lib.hid (fun v W1 (h : BookAt W1 v (bookOf s)) => isBook_any v (bookOf s) W1 h)
 have t1 : decide ((300 : Int) < (s.length : Int)) = false := by simp; omega
 have t2 : decide (300 < s.length) = false := by simp; omega
 have HS := Lib.hid (And.intro hs hyes)
 have c0a : (w.alloc (.cells #[strV s] 9)).cell? ⟨w.heap.size, 0, none⟩ = some (strV s) := by go_simp
 clear hx hsz hb1 hb2 hyes hs hO
 go_enter Tryz.func38, Tryz.ntmps38
 go_upto_region 4 with fail
 rw [show ((w.alloc (.cells #[strV s] 9)).alloc zeroBox).alloc zeroBox = W from HW.out.symm]
 go_upto_region 5 with (go_at_call 74; refine HTR.out.mono ?_; rintro e w4 ⟨rfl, w3, ⟨w2, gv, ev, hx2, ho1, ho2, rfl⟩, rfl⟩)
 obtain ⟨WE, hWE⟩ : ∃ WE, WE = (store4 w2 (w.heap.size + 1 + 1) gv (.int .i64 (bookOf s).editions) (.int .i64 (bookOf s).moves) ev).setCell ⟨W.heap.size, 0, none⟩ (.int .i64 0) := ⟨_, rfl⟩
 have hx2W : Ext W w2 := ((Ext.refl W).alloc _).trans hx2
 have hT1 := store4_touch w2 (w.heap.size + 1 + 1) gv (.int .i64 (bookOf s).editions) (.int .i64 (bookOf s).moves) ev
 have hT2 : Touch (· = W.heap.size) (store4 w2 (w.heap.size + 1 + 1) gv (.int .i64 (bookOf s).editions) (.int .i64 (bookOf s).moves) ev) WE := by rw [hWE]; exact Touch.setCell _ rfl
 have hsz := HSZ.out
 have HXE : Hid (Ext w WE) := by
  unfold Hid; rw [hWE]
  exact (store4_ext (HX.out.trans hx2W) (by omega) _ _ _ _).setCell (p := ⟨W.heap.size, 0, none⟩) (by simp only; omega) _
 have HO : Hid (WE.heap[w.heap.size + 1 + 1]? = some (.cells #[gv, .int .i64 (bookOf s).editions, .int .i64 (bookOf s).moves, ev] 25 (0, 0))) :=
  hT2.keep _ _ (store4_block ((hx2W.block (Array.getElem?_eq_some_iff.1 HB2.out).1).trans HB2.out) _ _ _ _) (by omega)
 have HZ : Hid (WE.heap[w.heap.size + 1]? = some zeroBox) := hT2.keep _ _ (hT1.keep _ _ ((hx2W.block (Array.getElem?_eq_some_iff.1 HB1.out).1).trans HB1.out) (by omega)) (by omega)
 have HR1 := Lib.hid (owns_touch (owns_touch ho1 hT1 (fun g hg e => by have := owns_block ho1 g hg; omega)) hT2 (fun g hg e => by have := owns_block ho1 g hg; omega))
 have HR2 := Lib.hid (owns_touch (owns_touch ho2 hT1 (fun g hg e => by have := owns_block ho2 g hg; omega)) hT2 (fun g hg e => by have := owns_block ho2 g hg; omega))
 rw [← hWE]
 clear hWE hT1 hT2 ho1 ho2 hx2 hx2W c0a c0
 obtain ⟨ga, gc, rfl, _⟩ := RowAt.open (RowAt.of_owns HR1.out)
 obtain ⟨ea, ec, rfl, _⟩ := RowAt.open (RowAt.of_owns HR2.out)
 have hBA : BookAt WE (.agg #[.slice ga (bookOf s).goods.length gc, .int .i64 (bookOf s).editions, .int .i64 (bookOf s).moves, .slice ea (bookOf s).entries.length ec]) (bookOf s) := ⟨_, _, rfl, RowAt.of_owns HR1.out, RowAt.of_owns HR2.out⟩
 have HI := Lib.hid (HIB.out _ WE hBA)
 obtain ⟨⟨q0, q1, q2, q3⟩, -⟩ := block4 HO.out
 clear hBA hsz
 cases hib : isBookB (bookOf s) with
 | false =>
  have HBB := Lib.hid hib
  rw [hib] at HI
  go_wp2_with (go_at_call 77; refine HI.out.mono ?_; rintro e w5 ⟨rfl, hx5⟩; have HZ5 := Lib.hid ((hx5.block (Array.getElem?_eq_some_iff.1 HZ.out).1).trans HZ.out); obtain ⟨⟨a0, a1, a2, a3⟩, f0, f1, f2, f3⟩ := block4 HZ5.out)
  obtain ⟨⟨r0, r1, r2, r3⟩, -⟩ := block4 (store4_block HZ5.out (.slice none 0 0) (.int .i64 0) (.int .i64 0) (.slice none 0 0))
  refine bodyPost_ret (v := .tuple #[zeroBk, .int .i64 2]) (by simp only [store4] at r0 r1 r2 r3; simp [results, Tryz.results38, go_sem, r0, r1, r2, r3]) rfl ?_
  exact ⟨_, _, rfl, store4_ext (HXE.out.trans hx5) (by omega) _ _ _ _, fun h => (by have := HS.out.1; omega), fun _ h => (by rw [HS.out.2] at h; cases h), fun _ _ => ⟨fun h => (by rw [HBB.out] at h; cases h), fun _ => ⟨rfl, rfl⟩⟩⟩
 | true =>
  have HBB := Lib.hid hib
  rw [hib] at HI
  go_wp2_with (go_at_call 77; refine HI.out.mono ?_; rintro e w5 ⟨rfl, hx5⟩; have HZ5 := Lib.hid ((hx5.block (Array.getElem?_eq_some_iff.1 HZ.out).1).trans HZ.out); have HO5 := Lib.hid ((hx5.block (Array.getElem?_eq_some_iff.1 HO.out).1).trans HO.out); obtain ⟨⟨a0, a1, a2, a3⟩, f0, f1, f2, f3⟩ := block4 HZ5.out; obtain ⟨⟨p0, p1, p2, p3⟩, -⟩ := block4 HO5.out)
  have hT := store4_touch w5 (w.heap.size + 1) (.slice ga (bookOf s).goods.length gc) (.int .i64 (bookOf s).editions) (.int .i64 (bookOf s).moves) (.slice ea (bookOf s).entries.length ec)
  have hsz := HSZ.out
  have k1 := owns_ext HR1.out hx5
  have k2 := owns_ext HR2.out hx5
  have HK1 := Lib.hid (RowAt.of_owns (owns_touch k1 hT (fun g hg e => by have := owns_block k1 g hg; omega)))
  have HK2 := Lib.hid (RowAt.of_owns (owns_touch k2 hT (fun g hg e => by have := owns_block k2 g hg; omega)))
  obtain ⟨⟨r0, r1, r2, r3⟩, -⟩ := block4 (store4_block HZ5.out (.slice ga (bookOf s).goods.length gc) (.int .i64 (bookOf s).editions) (.int .i64 (bookOf s).moves) (.slice ea (bookOf s).entries.length ec))
  refine bodyPost_ret (v := .tuple #[.agg #[.slice ga (bookOf s).goods.length gc, .int .i64 (bookOf s).editions, .int .i64 (bookOf s).moves, .slice ea (bookOf s).entries.length ec], .int .i64 0]) (by simp only [store4] at r0 r1 r2 r3; simp [results, Tryz.results38, go_sem, r0, r1, r2, r3]) rfl ?_
  exact ⟨_, _, rfl, store4_ext (HXE.out.trans hx5) (by omega) _ _ _ _, fun h => (by have := HS.out.1; omega), fun _ h => (by rw [HS.out.2] at h; cases h), fun _ _ => ⟨fun _ => ⟨rfl, _, _, rfl, HK1.out, HK2.out⟩, fun h => by rw [HBB.out] at h; cases h⟩⟩
theorem Read_any (s : List UInt8) (w : World) (ht : TabOk w) (hm : MaxOk w) (hs : s.length ≤ 2000000) : Calls Tryz.prog 38 #[strV s] w (ReadRes s w) := by
 by_cases h : s.length ≤ 300
 ·cases hy : isTextB s with
  | false => exact read_none s w ht hm h hy
  | true => exact read_yes s w ht hm h hy
 ·exact read_long s w (by omega) hs
end Go.Proofs.YtokananogogjaaaGreatDoor
