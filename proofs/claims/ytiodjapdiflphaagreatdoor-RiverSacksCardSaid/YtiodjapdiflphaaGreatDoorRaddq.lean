/- What the reference keeps over all truths, in memory. -/
import Derived.Test.YtiodjapdiflphaaGreatDoorPlainq
import Derived.Test.YtiodjapdiflphaaGreatDoorWith
import Derived.Test.YtiodjapdiflphaaGreatDoorKnowq
import Derived.Test.YtiodjapdiflphaaGreatDoorRtwoq
namespace Go.Proofs.YtiodjapdiflphaaGreatDoor
open Go.RowKit
theorem stBlock {w : World} {b i : Nat} {v : Value} {c : Array Value} {e : TypeId} {f : Nat × Nat} (h : w.heap[b]? = some (.cells c e f)) : (w.setCell ⟨b, i, none⟩ v).heap[b]? = some (.cells (c.setIfInBounds i v) e f) := by
 simp [World.setCell, Array.getElem?_modify, h]
theorem blkCell {W : World} {b i : Nat} {cs : Array Value} {t : TypeId} {v : Value} (h : W.heap[b]? = some (.cells cs t (0, 0))) (hv : cs[i]? = some v) : W.cell? ⟨b, i, none⟩ = some v ∧ W.frozen? ⟨b, i, none⟩ = false := by
 constructor
 ·simp [World.cell?, h, hv]
 ·simp [World.frozen?, h]
/-- Where it lies. -/
structure Lay where
 n : Nat
 c : Nat
 r : Nat
 y : Nat
 p : Nat
 ab : Nat
 og : Nat
 oc : Nat
 wg : Nat
 wc : Nat
 pg : Nat
 gs : Nat → Nat
 hs : Nat → Nat
 cs : Nat → Nat
 tag : Nat → Nat
structure LayB (L : Lay) (z : Nat) : Prop where
 tab : L.tag L.ab = 0
 tog : L.tag L.og = 1
 twg : L.tag L.wg = 2
 tpg : L.tag L.pg = 3
 tgs : ∀ i, i < L.n → L.tag (L.gs i) = 4 + 2 * i
 ths : ∀ i, i < L.r → L.tag (L.hs i) = 5 + 2 * i
 zab : z ≤ L.ab
 zpg : z ≤ L.pg
 zgs : ∀ i, i < L.n → z ≤ L.gs i
 zhs : ∀ i, i < L.r → z ≤ L.hs i
/-- The blocks that are written. -/
def Lay.M (L : Lay) (j : Nat) : Prop := j = L.ab ∨ j = L.pg ∨ (∃ i, i < L.n ∧ j = L.gs i) ∨ ∃ i, i < L.r ∧ j = L.hs i
structure AllG (L : Lay) (w0 : World) (ro : Nat → List Bool) (rw : Nat → List (Int × Int)) (rp : List Bool) (any : Bool) (W : World) : Prop where
 ext : Ext w0 W
 box : W.heap[L.ab]? = some (.cells #[.bool any, .slice (some ⟨L.og, 0, none⟩) L.n L.oc, .slice (some ⟨L.wg, 0, none⟩) L.r L.wc, .slice (some ⟨L.pg, 0, none⟩) L.p L.p] 39 (0, 0))
 ow : ∀ i, i < L.n → W.cell? ⟨L.og, i, none⟩ = some (.slice (some ⟨L.gs i, 0, none⟩) L.c L.c)
 own : ∀ i, i < L.n → W.ownsRow w0.heap.size 4 1 (.slice (some ⟨L.gs i, 0, none⟩) L.c L.c) L.c ((ro i).map .bool)
 ww : ∀ i, i < L.r → W.cell? ⟨L.wg, i, none⟩ = some (.slice (some ⟨L.hs i, 0, none⟩) L.y (L.cs i))
 wea : ∀ i, i < L.r → W.ownsRow w0.heap.size 52 2 (.slice (some ⟨L.hs i, 0, none⟩) L.y (L.cs i)) L.y ((rw i).flatMap pairC)
 pat : W.ownsRow w0.heap.size 4 1 (.slice (some ⟨L.pg, 0, none⟩) L.p L.p) L.p (rp.map .bool)
theorem AllG.ext' {L : Lay} {w0 : World} {ro : Nat → List Bool} {rw : Nat → List (Int × Int)} {rp : List Bool} {any : Bool} {W W' : World} (h : AllG L w0 ro rw rp any W) (k : Ext W W') : AllG L w0 ro rw rp any W' :=
 ⟨h.ext.trans k, (k.block (Array.getElem?_eq_some_iff.1 h.box).1).trans h.box, fun i hi => k.cell (h.ow i hi), fun i hi => owns_ext (h.own i hi) k, fun i hi => k.cell (h.ww i hi), fun i hi => owns_ext (h.wea i hi) k, owns_ext h.pat k⟩
theorem AllG.congr {L : Lay} {w0 : World} {ro ro' : Nat → List Bool} {rw rw' : Nat → List (Int × Int)} {rp rp' : List Bool} {any any' : Bool} {W : World} (h : AllG L w0 ro rw rp any W) (h1 : ∀ i, i < L.n → ro i = ro' i) (h2 : ∀ i, i < L.r → rw i = rw' i) (h3 : rp = rp') (h4 : any = any') : AllG L w0 ro' rw' rp' any' W := by
 subst h3 h4
 exact ⟨h.ext, h.box, h.ow, fun i hi => by rw [← h1 i hi]; exact h.own i hi, h.ww, fun i hi => by rw [← h2 i hi]; exact h.wea i hi, h.pat⟩
theorem AllG.lt {L : Lay} {w0 : World} {ro : Nat → List Bool} {rw : Nat → List (Int × Int)} {rp : List Bool} {any : Bool} {W : World} (h : AllG L w0 ro rw rp any W) : ∀ j, L.M j → j < W.heap.size := by
 rintro j (rfl | rfl | ⟨i, hi, rfl⟩ | ⟨i, hi, rfl⟩)
 ·exact (Array.getElem?_eq_some_iff.1 h.box).1
 ·exact (World.ownsRow.lt h.pat _ rfl).2
 ·exact (World.ownsRow.lt (h.own i hi) _ rfl).2
 ·exact (World.ownsRow.lt (h.wea i hi) _ rfl).2
theorem AllG.setOwn {L : Lay} {w0 : World} {ro : Nat → List Bool} {rw : Nat → List (Int × Int)} {rp : List Bool} {any : Bool} {W : World} (hL : LayB L w0.heap.size) (h : AllG L w0 ro rw rp any W) {i c : Nat} (hi : i < L.n) :
  AllG L w0 (fun j => if j = i then (ro i).set c true else ro j) rw rp any (W.setCell ⟨L.gs i, c, none⟩ (.bool true)) ∧ Touch L.M W (W.setCell ⟨L.gs i, c, none⟩ (.bool true)) := by
 have hT : Touch (· = L.gs i) W (W.setCell ⟨L.gs i, c, none⟩ (.bool true)) := Touch.setCell _ rfl
 have ti := hL.tgs i hi
 refine ⟨⟨h.ext.setCell (p := ⟨L.gs i, c, none⟩) (hL.zgs i hi) _, hT.keep _ _ h.box (fun e => ?_), fun j hj => hT.cell (h.ow j hj) (fun e => ?_), fun j hj => ?_, fun j hj => hT.cell (h.ww j hj) (fun e => ?_), fun j hj => owns_touch (h.wea j hj) hT (fun g hg e => ?_), owns_touch h.pat hT (fun g hg e => ?_)⟩, hT.mono (fun j hj => .inr (.inr (.inl ⟨i, hi, hj⟩)))⟩
 ·have t := hL.tab; rw [e] at t; omega
 ·have t := hL.tog; simp only at e; rw [e] at t; omega
 ·by_cases e : j = i
  ·subst e
   rw [if_pos rfl, List.map_set]
   exact ((h.own j hj).stored c (.bool true)).1
  ·rw [if_neg e]
   refine owns_touch (h.own j hj) hT (fun g hg e' => ?_)
   have t := hL.tgs j hj
   have hg' : L.gs j = g := Option.some.inj hg
   rw [hg', e'] at t; omega
 ·have t := hL.twg; simp only at e; rw [e] at t; omega
 ·have t := hL.ths j hj
  have hg' : L.hs j = g := Option.some.inj hg
  rw [hg', e] at t; omega
 ·have t := hL.tpg
  have hg' : L.pg = g := Option.some.inj hg
  rw [hg', e] at t; omega
theorem AllG.setPat {L : Lay} {w0 : World} {ro : Nat → List Bool} {rw : Nat → List (Int × Int)} {rp : List Bool} {any : Bool} {W : World} (hL : LayB L w0.heap.size) (h : AllG L w0 ro rw rp any W) {c : Nat} :
  AllG L w0 ro rw (rp.set c true) any (W.setCell ⟨L.pg, c, none⟩ (.bool true)) ∧ Touch L.M W (W.setCell ⟨L.pg, c, none⟩ (.bool true)) := by
 have hT : Touch (· = L.pg) W (W.setCell ⟨L.pg, c, none⟩ (.bool true)) := Touch.setCell _ rfl
 have ti := hL.tpg
 refine ⟨⟨h.ext.setCell (p := ⟨L.pg, c, none⟩) hL.zpg _, hT.keep _ _ h.box (fun e => ?_), fun j hj => hT.cell (h.ow j hj) (fun e => ?_), fun j hj => owns_touch (h.own j hj) hT (fun g hg e => ?_), fun j hj => hT.cell (h.ww j hj) (fun e => ?_), fun j hj => owns_touch (h.wea j hj) hT (fun g hg e => ?_), ?_⟩, hT.mono (fun j hj => .inr (.inl hj))⟩
 ·have t := hL.tab; rw [e] at t; omega
 ·have t := hL.tog; simp only at e; rw [e] at t; omega
 ·have t := hL.tgs j hj
  have hg' : L.gs j = g := Option.some.inj hg
  rw [hg', e] at t; omega
 ·have t := hL.twg; simp only at e; rw [e] at t; omega
 ·have t := hL.ths j hj
  have hg' : L.hs j = g := Option.some.inj hg
  rw [hg', e] at t; omega
 ·rw [List.map_set]
  exact (h.pat.stored c (.bool true)).1
theorem AllG.setWea {L : Lay} {w0 : World} {ro : Nat → List Bool} {rw : Nat → List (Int × Int)} {rp : List Bool} {any : Bool} {W : World} (hL : LayB L w0.heap.size) (h : AllG L w0 ro rw rp any W) {i c : Nat} (m : Int × Int) (hi : i < L.r) :
  AllG L w0 ro (fun j => if j = i then (rw i).set c m else rw j) rp any ((W.setCell ⟨L.hs i, c * 2, none⟩ (.int .i64 m.1)).setCell ⟨L.hs i, c * 2 + 1, none⟩ (.int .i64 m.2)) ∧ Touch L.M W ((W.setCell ⟨L.hs i, c * 2, none⟩ (.int .i64 m.1)).setCell ⟨L.hs i, c * 2 + 1, none⟩ (.int .i64 m.2)) := by
 have hT : Touch (· = L.hs i) W ((W.setCell ⟨L.hs i, c * 2, none⟩ (.int .i64 m.1)).setCell ⟨L.hs i, c * 2 + 1, none⟩ (.int .i64 m.2)) := (Touch.setCell (M := (· = L.hs i)) (A := W) (a := ⟨L.hs i, c * 2, none⟩) _ rfl).trans (Touch.setCell (M := (· = L.hs i)) (a := ⟨L.hs i, c * 2 + 1, none⟩) _ rfl)
 have ti := hL.ths i hi
 refine ⟨⟨(h.ext.setCell (p := ⟨L.hs i, c * 2, none⟩) (hL.zhs i hi) _).setCell (p := ⟨L.hs i, c * 2 + 1, none⟩) (hL.zhs i hi) _, hT.keep _ _ h.box (fun e => ?_), fun j hj => hT.cell (h.ow j hj) (fun e => ?_), fun j hj => owns_touch (h.own j hj) hT (fun g hg e => ?_), fun j hj => hT.cell (h.ww j hj) (fun e => ?_), fun j hj => ?_, owns_touch h.pat hT (fun g hg e => ?_)⟩, hT.mono (fun j hj => .inr (.inr (.inr ⟨i, hi, hj⟩)))⟩
 ·have t := hL.tab; rw [e] at t; omega
 ·have t := hL.tog; simp only at e; rw [e] at t; omega
 ·have t := hL.tgs j hj
  have hg' : L.gs j = g := Option.some.inj hg
  rw [hg', e] at t; omega
 ·have t := hL.twg; simp only at e; rw [e] at t; omega
 ·by_cases e : j = i
  ·subst e
   rw [if_pos rfl]
   exact row_stored (h.wea j hj) m
  ·rw [if_neg e]
   refine owns_touch (h.wea j hj) hT (fun g hg e' => ?_)
   have t := hL.ths j hj
   have hg' : L.hs j = g := Option.some.inj hg
   rw [hg', e'] at t; omega
 ·have t := hL.tpg
  have hg' : L.pg = g := Option.some.inj hg
  rw [hg', e] at t; omega
theorem AllG.setAny {L : Lay} {w0 : World} {ro : Nat → List Bool} {rw : Nat → List (Int × Int)} {rp : List Bool} {any : Bool} {W : World} (hL : LayB L w0.heap.size) (h : AllG L w0 ro rw rp any W) :
  AllG L w0 ro rw rp true (W.setCell ⟨L.ab, 0, none⟩ (.bool true)) ∧ Touch L.M W (W.setCell ⟨L.ab, 0, none⟩ (.bool true)) := by
 have hT : Touch (· = L.ab) W (W.setCell ⟨L.ab, 0, none⟩ (.bool true)) := Touch.setCell _ rfl
 have ti := hL.tab
 refine ⟨⟨h.ext.setCell (p := ⟨L.ab, 0, none⟩) hL.zab _, stBlock (i := 0) h.box, fun j hj => hT.cell (h.ow j hj) (fun e => ?_), fun j hj => owns_touch (h.own j hj) hT (fun g hg e => ?_), fun j hj => hT.cell (h.ww j hj) (fun e => ?_), fun j hj => owns_touch (h.wea j hj) hT (fun g hg e => ?_), owns_touch h.pat hT (fun g hg e => ?_)⟩, hT.mono (fun j hj => .inl hj)⟩
 ·have t := hL.tog; simp only at e; rw [e] at t; omega
 ·have t := hL.tgs j hj
  have hg' : L.gs j = g := Option.some.inj hg
  rw [hg', e] at t; omega
 ·have t := hL.twg; simp only at e; rw [e] at t; omega
 ·have t := hL.ths j hj
  have hg' : L.hs j = g := Option.some.inj hg
  rw [hg', e] at t; omega
 ·have t := hL.tpg
  have hg' : L.pg = g := Option.some.inj hg
  rw [hg', e] at t; omega
/-! ### The weather, span by span -/
theorem mixt_get {α : Type} {n o : List α} {y : Nat} (hl : n.length = o.length) (hy : y < o.length) : (n.take y ++ o.drop y)[y]? = o[y]? := by
 rw [List.getElem?_append_right (by rw [List.length_take]; omega), List.length_take, Nat.min_eq_left (by omega), Nat.sub_self, List.getElem?_drop, Nat.add_zero]
theorem mixt_set {α : Type} {n o : List α} {y : Nat} {m : α} (hl : n.length = o.length) (hm : n[y]? = some m) : (n.take y ++ o.drop y).set y m = n.take (y + 1) ++ o.drop (y + 1) := by
 have hy := (List.getElem?_eq_some_iff.1 hm).1
 rw [List.set_append_right _ _ (by rw [List.length_take]; omega), List.length_take, Nat.min_eq_left (by omega), Nat.sub_self, List.take_add_one, hm, Option.toList_some, List.append_assoc]
 congr 1
 rw [List.drop_eq_getElem_cons (by omega : y < o.length)]
 rfl
theorem row_get {p : Rows2} {r y : Nat} {o : Int × Int} (h : (p.getD r [])[y]? = some o) : ∃ l, p[r]? = some l ∧ l[y]? = some o := by
 rw [List.getD_eq_getElem?_getD] at h
 cases hp : p[r]? with
 | none => rw [hp] at h; simp at h
 | some l => rw [hp] at h; exact ⟨l, rfl, h⟩
theorem weaA_at {b : Book} {s : Sack} {k : Nat} {x : State} (h : (truthsOf b s)[k]? = some x) {r y : Nat} {o m : Int × Int} (ho : ((weaA b s k).getD r [])[y]? = some o) (hm : (x.wea.getD r [])[y]? = some m) :
  ((weaA b s (k + 1)).getD r [])[y]? = some (if 0 < k then hull o m else m) := by
 rw [weaA_succ h]
 by_cases hk : k = 0
 ·rw [if_pos hk, if_neg (by omega)]; exact hm
 ·rw [if_neg hk, if_pos (by omega)]
  obtain ⟨lp, h1, h2⟩ := row_get ho
  obtain ⟨lq, h3, h4⟩ := row_get hm
  unfold hulls
  rw [List.getD_eq_getElem?_getD, List.getElem?_zipWith, h1, h3]
  simp only [Option.getD_some, List.getElem?_zipWith, h2, h4]
theorem weaA_shape {b : Book} {s : Sack} (hB : BookB b) (hS : SackB s) : ∀ {k : Nat}, k ≤ (truthsOf b s).length → Shape b (weaA b s k)
 | 0, _ => by
  unfold weaA
  rw [if_pos rfl]
  refine ⟨by simp [beginB], fun l hl => ?_⟩
  obtain ⟨r, hr, rfl⟩ := List.mem_map.1 (show l ∈ b.rivers.map River.grow from hl)
  exact hB.len r hr
 | k + 1, h => by
  unfold weaA
  rw [if_neg (by omega)]
  exact shape_to hB hS k h
theorem shape_row {b : Book} {p : Rows2} (h : Shape b p) {r : Nat} (hr : r < b.rivers.length) : ((p.getD r []).length : Int) = b.years := by
 rw [List.getD_eq_getElem?_getD, List.getElem?_eq_getElem (by rw [h.1]; exact hr)]
 exact h.2 _ (List.getElem_mem _)
end Go.Proofs.YtiodjapdiflphaaGreatDoor

/- The reference's add: the truth that it has come to. -/
namespace Go.Proofs.YtiodjapdiflphaaGreatDoor
open Go.RowKit
structure LayS (L : Lay) (b : Book) (s : Sack) : Prop where
 n : L.n = s.shells.length
 c : L.c = b.rivers.length * b.years.toNat
 r : L.r = b.rivers.length
 y : L.y = b.years.toNat
 p : L.p = 2 ^ s.shells.length
def AllI (b : Book) (s : Sack) (L : Lay) (w0 : World) (k : Nat) (W : World) : Prop := AllG L w0 (ownRow b s k) (fun r => (weaA b s k).getD r []) (patsTo b s k) (decide (0 < k)) W
def AddPost (b : Book) (s : Sack) (L : Lay) (w0 A : World) (k : Nat) (e : Ending) (A' : World) : Prop := e = .returned (.tuple #[]) ∧ Touch L.M A A' ∧ AllI b s L w0 k A'
/-- Every origin is one of the book. -/
def OrgsIn (b : Book) (l : List Org) : Prop := ∀ o, o ∈ l → ∃ r y : Nat, o = ((r : Int), (y : Int)) ∧ r < b.rivers.length ∧ (y : Int) < b.years
theorem AllG.c0 {L : Lay} {w0 : World} {ro : Nat → List Bool} {rw : Nat → List (Int × Int)} {rp : List Bool} {any : Bool} {W : World} (h : AllG L w0 ro rw rp any W) : W.cell? ⟨L.ab, 0, none⟩ = some (.bool any) ∧ W.frozen? ⟨L.ab, 0, none⟩ = false ∧ W.cell? ⟨L.ab, 1, none⟩ = some (.slice (some ⟨L.og, 0, none⟩) L.n L.oc) ∧ W.cell? ⟨L.ab, 2, none⟩ = some (.slice (some ⟨L.wg, 0, none⟩) L.r L.wc) ∧ W.cell? ⟨L.ab, 3, none⟩ = some (.slice (some ⟨L.pg, 0, none⟩) L.p L.p) :=
 ⟨(blkCell h.box (i := 0) rfl).1, (blkCell h.box (i := 0) rfl).2, (blkCell h.box (i := 1) rfl).1, (blkCell h.box (i := 2) rfl).1, (blkCell h.box (i := 3) rfl).1⟩
set_option maxRecDepth 100000 in
set_option maxHeartbeats 16000000 in
theorem radd_leaf (bv sv nv wv : Value) (b : Book) (s : Sack) (L : Lay) (x : State) (k : Nat) (w0 A : World) (hB : BookB b) (hS : SackB s) (hb : BookAt w0 bv b) (hs : SackAt w0 sv s) (hL : LayB L w0.heap.size) (hLS : LayS L b s) (hx : StateB b x) (hxo : OrgsIn b x.org) (hxl : x.org.length = s.shells.length) (ht : (truthsOf b s)[k]? = some x)
  (hI : AllI b s L w0 k A) (hn : PairsOff L.M A nv x.org) (hw : SpansOff L.M A wv x.wea) : Calls Tryz.prog 43 #[.pointer (some ⟨L.ab, 0, none⟩), bv, sv, nv, wv] A (AddPost b s L w0 A (k + 1)) := by
 have HBK := Lib.hid (fun W (h : Ext w0 W) => hb.ext h)
 obtain ⟨ra, rc, rfl, hr0⟩ := hb.slice
 obtain ⟨sa, sc, ta, tc, rfl, _, _⟩ := hs.slice
 have y1 := hB.y1
 have y2 := hB.y2
 have r3 := hB.n2
 have n4 := hS.n2
 obtain ⟨Y, hyy⟩ : ∃ Y : Nat, b.years = Y := ⟨b.years.toNat, by omega⟩
 have hYn : b.years.toNat = Y := by omega
 have hMlt := hI.lt
 obtain ⟨na, nc, hnv, n1, n2, n3⟩ := hn.1.open
 obtain ⟨wa, wk, hwv, w1, w2, _⟩ := SpansOff.open hw
 obtain ⟨W0, hW0⟩ : ∃ W0, W0 = (A.alloc (.cells #[.int .i64 b.years, .slice ra b.rivers.length rc] 24)).alloc (.cells #[.slice sa s.shells.length sc, .slice ta s.tests.length tc] 28) := ⟨_, rfl⟩
 have hx0 : Ext A W0 := by rw [hW0]; exact ((Ext.refl A).alloc _).alloc _
 have hb0 : W0.heap[A.heap.size]? = some (.cells #[.int .i64 b.years, .slice ra b.rivers.length rc] 24 (0, 0)) := by
  rw [hW0]
  exact (((Ext.refl _).alloc _).block (b := A.heap.size) (by simp)).trans (World.alloc_heap_new A _)
 have hnM : ¬ L.M A.heap.size := fun h => by have := hMlt _ h; omega
 have HC := Lib.hid (fun W (h : Touch L.M W0 W) => (⟨(blkCell (h.keep _ _ hb0 hnM) (i := 0) rfl).1, (blkCell (h.keep _ _ hb0 hnM) (i := 1) rfl).1⟩ : W.cell? ⟨A.heap.size, 0, none⟩ = some (.int .i64 b.years) ∧ W.cell? ⟨A.heap.size, 1, none⟩ = some (.slice ra b.rivers.length rc)))
 have HN := Lib.hid (fun W (h : Touch L.M W0 W) => (hn.ext hx0).touch h)
 have HW := Lib.hid (fun W (h : Touch L.M W0 W) => (hw.ext hx0).touch h)
 have HI0 := Lib.hid (AllG.ext' hI hx0)
 have HX0 := Lib.hid hx0
 have HLB := Lib.hid hL
 have HLS := Lib.hid hLS
 have HXO := Lib.hid hxo
 have HST := Lib.hid hx
 have HT := Lib.hid ht
 have HCL := Lib.hid (fun (r y : Nat) (W : World) (h : Ext w0 W) (hr : r < b.rivers.length) (hy : (y : Int) < b.years) => rclosed_any _ b r y W (HBK.out W h) hB hr hy)
 have t0 : decide ((x.org.length : Int) < (s.shells.length : Int)) = false := by simp; omega
 have t0' : decide (x.org.length < s.shells.length) = false := by simp; omega
 have HYY := Lib.hid (And.intro hyy hYn)
 have HXL := Lib.hid hxl
 subst hnv hwv
 clear hyy hYn hxl hb hs hL hLS hx hxo ht hI hn hw hr0 n3 hnM hb0 hMlt
 go_enter Tryz.func43, Tryz.ntmps43
 go_upto_region 10 with fail
 rw [← hW0]
 clear hW0 hx0
 go_wp2
 go_loopw [15, 16] (fun pv i wr => ∃ q : Nat, q ≤ x.org.length ∧ i = .int .i64 (q : Int) ∧ pv = .int .i64 (patTo b x q : Int) ∧ Hid (AllG L w0 (fun j => ownRow b s (if j < q then k + 1 else k) j) (fun r => (weaA b s k).getD r []) (patsTo b s k) (decide (0 < k)) wr) ∧ Hid (Touch L.M W0 wr)) (fun _ i _ => x.org.length - (intOf i).toNat)
 case atStart => exact ⟨0, Nat.zero_le _, rfl, rfl, HI0.out, Touch.refl _ _⟩
 case round =>
  obtain ⟨q, hq, rfl, rfl, hG, hT⟩ := hrel
  by_cases hlt : q < x.org.length
  ·have x1 : decide ((q : Int) < (x.org.length : Int)) = true := by simpa using hlt
   have x2 : (q : Int) < (x.org.length : Int) := by omega
   have x3 : (0 : Int) ≤ (q : Int) := by omega
   have hqn : q < L.n := by rw [HLS.out.n, ← HXL.out]; exact hlt
   have x4 : (q : Int) < (L.n : Int) := by omega
   have HN2 := Lib.hid (HN.out _ hT.out)
   obtain ⟨_, _, hnv, _, _, n3⟩ := HN2.out.1.open
   cases hnv
   obtain ⟨nb, no, o, rfl, ho, d0, d1⟩ := n3 q hlt
   obtain ⟨r, y, rfl, hr, hy⟩ := HXO.out o (List.mem_of_getElem? ho.out)
   simp only at d0 d1
   have hOff := Lib.hid (HN2.out.2)
   obtain ⟨z0, z1⟩ := HC.out _ hT.out
   obtain ⟨c0, cf, c1, c2, c3⟩ := hG.out.c0
   have g0 := hG.out.ow q hqn
   have hyy := HYY.out.1
   have hYn := HYY.out.2
   have hxl := HXL.out
   obtain ⟨m, hm⟩ : ∃ m : Nat, m = r * Y := ⟨_, rfl⟩
   obtain ⟨c, hc⟩ : ∃ c : Nat, c = m + y := ⟨_, rfl⟩
   have hm2 : m ≤ 18 := by
    have h1 : r ≤ 2 := by omega
    have h2 : Y ≤ 6 := by omega
    rw [hm]
    exact Nat.le_trans (Nat.mul_le_mul h1 h2) (by decide)
   have hcl : c < L.c := by
    rw [HLS.out.c, hYn, hc, hm]
    have h1 : (r + 1) * Y ≤ b.rivers.length * Y := Nat.mul_le_mul_right _ hr
    rw [Nat.succ_mul] at h1
    omega
   have E1 : IntKind.i64.wrap ((r : Int) * b.years) = (m : Int) := by rw [hyy, hm, Int.natCast_mul]; exact IntWalk.i64_in _ (by rw [← Int.natCast_mul, ← hm]; omega)
   have E2 : IntKind.i64.wrap ((m : Int) + (y : Int)) = (c : Int) := by rw [hc, Int.natCast_add]; exact IntWalk.i64_in _ (by omega)
   have x5 : (0 : Int) ≤ (c : Int) := by omega
   have x6 : (c : Int) < (L.c : Int) := by omega
   have hcell := (hG.out.own q hqn).cellAt c (by omega)
   have hfr := (hG.out.own q hqn).frozenAt c
   have hlen : ((ownRow b s (if q < q then k + 1 else k) q).map Value.bool).length = L.c := by unfold ownRow; rw [List.length_map, List.length_map, List.length_range, HLS.out.c]
   obtain ⟨u, hu⟩ : ∃ u, ((ownRow b s (if q < q then k + 1 else k) q).map Value.bool)[c]? = some u := ⟨_, List.getElem?_eq_getElem (by rw [hlen]; exact hcl)⟩
   rw [hu] at hcell
   have hoc : orgCell b (orgAt x q) = c := by unfold orgCell orgAt; rw [List.getD_eq_getElem?_getD, ho.out, Option.getD_some, hYn]; simp only [Int.toNat_natCast]; rw [hc, hm]
   have HOC := Lib.hid hoc
   have HQN := Lib.hid hqn
   have hatq : orgAt x q = ((r : Int), (y : Int)) := by unfold orgAt; rw [List.getD_eq_getElem?_getD, ho.out]; rfl
   have HATQ := Lib.hid hatq
   clear hu hoc hm hc hcl n3 hlen hatq hyy hYn hxl
   go_upto_region 14 with fail
   refine wp_region_noPanic ?_
   refine wp_region_any (by kernel_rfl) (wpAny_of_till (z := 22) (S := (fun w' => w'.cell? ⟨L.ab, 1, none⟩ = some (.slice (some ⟨L.og, 0, none⟩) L.n L.oc) ∧ w'.cell? ⟨L.og, q, none⟩ = some (.slice (some ⟨L.gs q, 0, none⟩) L.c L.c) ∧ w'.cell? ⟨nb, no + q * 2, none⟩ = some (.int .i64 (r : Int)) ∧ w'.cell? ⟨nb, no + q * 2 + 1, none⟩ = some (.int .i64 (y : Int)) ∧ w'.cell? ⟨A.heap.size, 0, none⟩ = some (.int .i64 b.years))) _ _ _ _ ?_)
   change wpTill _ _ _ _ _ _ _ _ _ wr.drew
   have hS0 := (show (World.drew wr).cell? ⟨L.ab, 1, none⟩ = some (.slice (some ⟨L.og, 0, none⟩) L.n L.oc) ∧ (World.drew wr).cell? ⟨L.og, q, none⟩ = some (.slice (some ⟨L.gs q, 0, none⟩) L.c L.c) ∧ (World.drew wr).cell? ⟨nb, no + q * 2, none⟩ = some (.int .i64 (r : Int)) ∧ (World.drew wr).cell? ⟨nb, no + q * 2 + 1, none⟩ = some (.int .i64 (y : Int)) ∧ (World.drew wr).cell? ⟨A.heap.size, 0, none⟩ = some (.int .i64 b.years) from ⟨c1, g0, d0, d1, z0⟩)
   refine till_at (i := 0) (d := some 86) (v := ?_) (by kernel_rfl) (by kernel_rfl) (by kernel_rfl) (by kernel_rfl) (by kernel_rfl) (fun _ _ _ h => h) (fun o ho => ?_) hS0 ?_
   rotate_left
   ·simp only [zA, zB, zD] at ho
    subst ho
    refine Or.inl ⟨by rfl, fun w' hSw => ?_⟩
    obtain ⟨hSw0, hSw1, hSw2, hSw3, hSw4⟩ := hSw
    go_simp
    try with_reducible rfl
   try simp only [Act.put, yA, yB, yC]
   refine till_at (i := 1) (d := some 87) (v := ?_) (by kernel_rfl) (by kernel_rfl) (by kernel_rfl) (by kernel_rfl) (by kernel_rfl) (fun _ _ _ h => h) (fun o ho => ?_) hS0 ?_
   rotate_left
   ·simp only [zA, zB, zC, zD] at ho
    subst ho
    refine Or.inl ⟨by rfl, fun w' hSw => ?_⟩
    obtain ⟨hSw0, hSw1, hSw2, hSw3, hSw4⟩ := hSw
    go_simp
    try with_reducible rfl
   try simp only [Act.put, yA, yB, yC]
   refine till_at (i := 2) (d := some 88) (v := ?_) (by kernel_rfl) (by kernel_rfl) (by kernel_rfl) (by kernel_rfl) (by kernel_rfl) (fun _ _ _ h => h) (fun o ho => ?_) hS0 ?_
   rotate_left
   ·simp only [zA, zB, zC, zD] at ho
    subst ho
    refine Or.inl ⟨by rfl, fun w' hSw => ?_⟩
    obtain ⟨hSw0, hSw1, hSw2, hSw3, hSw4⟩ := hSw
    go_simp
    try with_reducible rfl
   try simp only [Act.put, yA, yB, yC]
   refine till_at (i := 3) (d := some 89) (v := ?_) (by kernel_rfl) (by kernel_rfl) (by kernel_rfl) (by kernel_rfl) (by kernel_rfl) (fun _ _ _ h => h) (fun o ho => ?_) hS0 ?_
   rotate_left
   ·simp only [zA, zB, zC, zD] at ho
    subst ho
    refine Or.inl ⟨by rfl, fun w' hSw => ?_⟩
    obtain ⟨hSw0, hSw1, hSw2, hSw3, hSw4⟩ := hSw
    go_simp
    try with_reducible rfl
   try simp only [Act.put, yA, yB, yC]
   refine till_at (i := 4) (d := some 90) (v := ?_) (by kernel_rfl) (by kernel_rfl) (by kernel_rfl) (by kernel_rfl) (by kernel_rfl) (fun _ _ _ h => h) (fun o ho => ?_) hS0 ?_
   rotate_left
   ·simp only [zA, zB, zC, zD] at ho
    subst ho
    refine Or.inl ⟨by rfl, fun w' hSw => ?_⟩
    obtain ⟨hSw0, hSw1, hSw2, hSw3, hSw4⟩ := hSw
    go_simp
    try with_reducible rfl
   try simp only [Act.put, yA, yB, yC]
   refine till_at (i := 5) (d := some 91) (v := ?_) (by kernel_rfl) (by kernel_rfl) (by kernel_rfl) (by kernel_rfl) (by kernel_rfl) (fun _ _ _ h => h) (fun o ho => ?_) hS0 ?_
   rotate_left
   ·simp only [zA, zB, zC, zD] at ho
    subst ho
    refine Or.inl ⟨by rfl, fun w' hSw => ?_⟩
    obtain ⟨hSw0, hSw1, hSw2, hSw3, hSw4⟩ := hSw
    go_simp
    try with_reducible rfl
   try simp only [Act.put, yA, yB, yC]
   refine till_at (i := 6) (d := some 92) (v := ?_) (by kernel_rfl) (by kernel_rfl) (by kernel_rfl) (by kernel_rfl) (by kernel_rfl) (fun _ _ _ h => h) (fun o ho => ?_) hS0 ?_
   rotate_left
   ·simp only [zA, zB, zC, zD] at ho
    subst ho
    refine Or.inl ⟨by rfl, fun w' hSw => ?_⟩
    obtain ⟨hSw0, hSw1, hSw2, hSw3, hSw4⟩ := hSw
    go_simp
    try with_reducible rfl
   try simp only [Act.put, yA, yB, yC]
   refine till_at (i := 7) (d := some 93) (v := ?_) (by kernel_rfl) (by kernel_rfl) (by kernel_rfl) (by kernel_rfl) (by kernel_rfl) (fun _ _ _ h => h) (fun o ho => ?_) hS0 ?_
   rotate_left
   ·simp only [zA, zB, zC, zD] at ho
    subst ho
    refine Or.inl ⟨by rfl, fun w' hSw => ?_⟩
    obtain ⟨hSw0, hSw1, hSw2, hSw3, hSw4⟩ := hSw
    go_simp
    try with_reducible rfl
   try simp only [Act.put, yA, yB, yC]
   refine till_at (i := 8) (d := some 94) (v := ?_) (by kernel_rfl) (by kernel_rfl) (by kernel_rfl) (by kernel_rfl) (by kernel_rfl) (fun _ _ _ h => h) (fun o ho => ?_) hS0 ?_
   rotate_left
   ·simp only [zA, zB, zC, zD] at ho
    subst ho
    refine Or.inl ⟨by rfl, fun w' hSw => ?_⟩
    obtain ⟨hSw0, hSw1, hSw2, hSw3, hSw4⟩ := hSw
    go_simp
    try with_reducible rfl
   try simp only [Act.put, yA, yB, yC]
   refine till_at (i := 9) (d := some 95) (v := ?_) (by kernel_rfl) (by kernel_rfl) (by kernel_rfl) (by kernel_rfl) (by kernel_rfl) (fun _ _ _ h => h) (fun o ho => ?_) hS0 ?_
   rotate_left
   ·simp only [zA, zB, zC, zD] at ho
    subst ho
    refine Or.inl ⟨by rfl, fun w' hSw => ?_⟩
    obtain ⟨hSw0, hSw1, hSw2, hSw3, hSw4⟩ := hSw
    go_simp
    try with_reducible rfl
   try simp only [Act.put, yA, yB, yC]
   refine till_at (i := 10) (d := some 96) (v := ?_) (by kernel_rfl) (by kernel_rfl) (by kernel_rfl) (by kernel_rfl) (by kernel_rfl) (fun _ _ _ h => h) (fun o ho => ?_) hS0 ?_
   rotate_left
   ·simp only [zA, zB, zC, zD] at ho
    subst ho
    refine Or.inl ⟨by rfl, fun w' hSw => ?_⟩
    obtain ⟨hSw0, hSw1, hSw2, hSw3, hSw4⟩ := hSw
    go_simp
    try with_reducible rfl
   try simp only [Act.put, yA, yB, yC]
   refine till_at (i := 11) (d := some 97) (v := ?_) (by kernel_rfl) (by kernel_rfl) (by kernel_rfl) (by kernel_rfl) (by kernel_rfl) (fun _ _ _ h => h) (fun o ho => ?_) hS0 ?_
   rotate_left
   ·simp only [zA, zB, zC, zD] at ho
    subst ho
    refine Or.inl ⟨by rfl, fun w' hSw => ?_⟩
    obtain ⟨hSw0, hSw1, hSw2, hSw3, hSw4⟩ := hSw
    go_simp
    try with_reducible rfl
   try simp only [Act.put, yA, yB, yC]
   refine till_at (i := 12) (d := some 98) (v := ?_) (by kernel_rfl) (by kernel_rfl) (by kernel_rfl) (by kernel_rfl) (by kernel_rfl) (fun _ _ _ h => h) (fun o ho => ?_) hS0 ?_
   rotate_left
   ·simp only [zA, zB, zC, zD] at ho
    subst ho
    refine Or.inl ⟨by rfl, fun w' hSw => ?_⟩
    obtain ⟨hSw0, hSw1, hSw2, hSw3, hSw4⟩ := hSw
    go_simp
    try with_reducible rfl
   try simp only [Act.put, yA, yB, yC]
   refine till_at (i := 13) (d := some 99) (v := ?_) (by kernel_rfl) (by kernel_rfl) (by kernel_rfl) (by kernel_rfl) (by kernel_rfl) (fun _ _ _ h => h) (fun o ho => ?_) hS0 ?_
   rotate_left
   ·simp only [zA, zB, zC, zD] at ho
    subst ho
    refine Or.inl ⟨by rfl, fun w' hSw => ?_⟩
    obtain ⟨hSw0, hSw1, hSw2, hSw3, hSw4⟩ := hSw
    go_simp
    try with_reducible rfl
   try simp only [Act.put, yA, yB, yC]
   refine till_at (i := 14) (d := some 100) (v := ?_) (by kernel_rfl) (by kernel_rfl) (by kernel_rfl) (by kernel_rfl) (by kernel_rfl) (fun _ _ _ h => h) (fun o ho => ?_) hS0 ?_
   rotate_left
   ·simp only [zA, zB, zC, zD] at ho
    subst ho
    refine Or.inl ⟨by rfl, fun w' hSw => ?_⟩
    obtain ⟨hSw0, hSw1, hSw2, hSw3, hSw4⟩ := hSw
    go_simp
    try with_reducible rfl
   try simp only [Act.put, yA, yB, yC]
   refine till_at (i := 15) (d := some 101) (v := ?_) (by kernel_rfl) (by kernel_rfl) (by kernel_rfl) (by kernel_rfl) (by kernel_rfl) (fun _ _ _ h => h) (fun o ho => ?_) hS0 ?_
   rotate_left
   ·simp only [zA, zB, zC, zD] at ho
    subst ho
    refine Or.inl ⟨by rfl, fun w' hSw => ?_⟩
    obtain ⟨hSw0, hSw1, hSw2, hSw3, hSw4⟩ := hSw
    go_simp
    try with_reducible rfl
   try simp only [Act.put, yA, yB, yC]
   refine till_at (i := 16) (d := some 102) (v := ?_) (by kernel_rfl) (by kernel_rfl) (by kernel_rfl) (by kernel_rfl) (by kernel_rfl) (fun _ _ _ h => h) (fun o ho => ?_) hS0 ?_
   rotate_left
   ·simp only [zA, zB, zC, zD] at ho
    subst ho
    refine Or.inl ⟨by rfl, fun w' hSw => ?_⟩
    obtain ⟨hSw0, hSw1, hSw2, hSw3, hSw4⟩ := hSw
    go_simp
    try with_reducible rfl
   try simp only [Act.put, yA, yB, yC]
   refine till_at (i := 17) (d := some 103) (v := ?_) (by kernel_rfl) (by kernel_rfl) (by kernel_rfl) (by kernel_rfl) (by kernel_rfl) (fun _ _ _ h => h) (fun o ho => ?_) hS0 ?_
   rotate_left
   ·simp only [zA, zB, zC, zD] at ho
    subst ho
    refine Or.inl ⟨by rfl, fun w' hSw => ?_⟩
    obtain ⟨hSw0, hSw1, hSw2, hSw3, hSw4⟩ := hSw
    go_simp
    try with_reducible rfl
   try simp only [Act.put, yA, yB, yC]
   refine till_at (i := 18) (d := some 104) (v := ?_) (by kernel_rfl) (by kernel_rfl) (by kernel_rfl) (by kernel_rfl) (by kernel_rfl) (fun _ _ _ h => h) (fun o ho => ?_) hS0 ?_
   rotate_left
   ·simp only [zA, zB, zC, zD] at ho
    subst ho
    refine Or.inl ⟨by rfl, fun w' hSw => ?_⟩
    obtain ⟨hSw0, hSw1, hSw2, hSw3, hSw4⟩ := hSw
    go_simp
    try with_reducible rfl
   try simp only [Act.put, yA, yB, yC]
   refine till_at (i := 19) (d := some 105) (v := ?_) (by kernel_rfl) (by kernel_rfl) (by kernel_rfl) (by kernel_rfl) (by kernel_rfl) (fun _ _ _ h => h) (fun o ho => ?_) hS0 ?_
   rotate_left
   ·simp only [zA, zB, zC, zD] at ho
    subst ho
    refine Or.inl ⟨by rfl, fun w' hSw => ?_⟩
    obtain ⟨hSw0, hSw1, hSw2, hSw3, hSw4⟩ := hSw
    go_simp
    try with_reducible rfl
   try simp only [Act.put, yA, yB, yC]
   refine till_at (i := 20) (d := some 106) (v := ?_) (by kernel_rfl) (by kernel_rfl) (by kernel_rfl) (by kernel_rfl) (by kernel_rfl) (fun _ _ _ h => h) (fun o ho => ?_) hS0 ?_
   rotate_left
   ·simp only [zA, zB, zC, zD] at ho
    subst ho
    refine Or.inl ⟨by rfl, fun w' hSw => ?_⟩
    obtain ⟨hSw0, hSw1, hSw2, hSw3, hSw4⟩ := hSw
    go_simp
    try with_reducible rfl
   try simp only [Act.put, yA, yB, yC]
   refine till_at (i := 21) (d := some 107) (v := ?_) (by kernel_rfl) (by kernel_rfl) (by kernel_rfl) (by kernel_rfl) (by kernel_rfl) (fun _ _ _ h => h) (fun o ho => ?_) hS0 ?_
   rotate_left
   ·simp only [zA, zB, zC, zD] at ho
    subst ho
    refine Or.inl ⟨by rfl, fun w' hSw => ?_⟩
    obtain ⟨hSw0, hSw1, hSw2, hSw3, hSw4⟩ := hSw
    go_simp
    try with_reducible rfl
   try simp only [Act.put, yA, yB, yC]
   refine till_step (i := 22) (by kernel_rfl) (by kernel_rfl) (fun o ho K' hK => ?_)
   simp only [zA, zB, zC, zD] at ho
   subst ho
   go_simp
   refine hK.out _ _ (fun h => absurd rfl h) (fun _ => ?_)
   clear hK K'
   try simp only [Act.put, yA, yB, yC]
   refine till_done (by kernel_rfl) ?_ _
   refine NoPanic.normal ?_
   try simp only [Act.put, yA, yB, yC]
   obtain ⟨hG1, hT1⟩ := hG.out.setOwn (i := q) (c := c) HLB.out HQN.out
   have HG2 := Lib.hid (AllG.ext' hG1 (Ext.refl (wr.setCell ⟨L.gs q, c, none⟩ (.bool true))).drew)
   have hT2 := hT1.trans (Touch.of_ext (Ext.refl (wr.setCell ⟨L.gs q, c, none⟩ (.bool true))).drew)
   have hnbM : ¬ L.M nb := hOff.out _ _ _ rfl
   have e0 := hT2.cell d0 hnbM
   have e1 := hT2.cell d1 hnbM
   have HT2 := Lib.hid (hT.out.trans hT2)
   clear hG1 hT1 hT2 z0 z1 c0 cf c1 c2 c3 g0 hcell hfr d0 d1 hS0
   generalize (wr.setCell ⟨L.gs q, c, none⟩ (.bool true)).drew = WS at *
   obtain ⟨f0, f1⟩ := HC.out _ HT2.out
   have HF := Lib.hid (fun W (h : Ext WS W) => (⟨h.cell f0, h.cell f1, h.cell e0, h.cell e1⟩ : W.cell? ⟨A.heap.size, 0, none⟩ = some (.int .i64 b.years) ∧ W.cell? ⟨A.heap.size, 1, none⟩ = some (.slice ra b.rivers.length rc) ∧ W.cell? ⟨nb, no + q * 2, none⟩ = some (.int .i64 (r : Int)) ∧ W.cell? ⟨nb, no + q * 2 + 1, none⟩ = some (.int .i64 (y : Int))))
   have HCR := Lib.hid (fun W (h : Ext WS W) => HCL.out r y W (HG2.out.ext.trans h) hr hy)
   have hpt : patTo b x (q + 1) = patTo b x q + if closedB b ((r : Int), (y : Int)) then 2 ^ q else 0 := by rw [← HATQ.out]; rfl
   have hq4 : q < 4 := by have := HXL.out; omega
   have hpl := patTo_lt b x q
   have HOWN : Hid (∀ j, j < L.n → (if j = q then (ownRow b s (if q < q then k + 1 else k) q).set c true else ownRow b s (if j < q then k + 1 else k) j) = ownRow b s (if j < q + 1 then k + 1 else k) j) := fun j hj => by
    by_cases e : j = q
    ·subst e
     rw [if_pos rfl, if_neg (Nat.lt_irrefl _), if_pos (Nat.lt_succ_self _), ownRow_succ HT.out, HOC.out]
    ·rw [if_neg e]
     by_cases e2 : j < q
     ·rw [if_pos e2, if_pos (by omega)]
     ·rw [if_neg e2, if_neg (by omega)]
   clear f0 f1 e0 e1
   cases hcc : closedB b ((r : Int), (y : Int)) with
   | true =>
    rw [hcc] at HCR hpt
    rw [if_pos rfl] at hpt
    have HPT := Lib.hid hpt
    clear hcc hpt
    go_upto_region 15 with fail
    refine region_reads (C := fun W => Ext WS W) (by kernel_rfl) (by kernel_rfl) ((Ext.refl WS).drew) ?_
    repeat (first | go_big_quiet_skip | (go_big_quiet_want; go_big_quiet_op; first | go_big_quiet_on | (refine ⟨_, fun W hW => rfl, ?_⟩; go_big_quiet_on)) | (go_big_quiet_want; refine ⟨?_, fun W hW => ?_, ?_⟩; rotate_left; (· (obtain ⟨p0, p1, p2, p3⟩ := HF.out W hW); go_simp; (first | with_reducible rfl | (go_at_call 79; refine (HCR.out W hW).mono ?_; rintro e w' ⟨rfl, hx1⟩; constructor; with_reducible rfl; exact hW.trans hx1))); (try simp only [Act.put, yA, yB, yC]); go_big_quiet_on))
    refine wpQuiet_nil ?_
    intro wq hq
    go_wp2
    have h8 : 2 ^ q ≤ 8 := by
     rcases (by omega : q = 0 ∨ q = 1 ∨ q = 2 ∨ q = 3) with h | h | h | h <;> rw [h] <;> decide
    have hw : wrap64 ((patTo b x q : Int) + wrap64 ((2 : Int) ^ q)) = ((patTo b x q + 2 ^ q : Nat) : Int) := by
     rw [show (2 : Int) ^ q = ((2 ^ q : Nat) : Int) by rw [Int.natCast_pow]; rfl]
     generalize 2 ^ q = t at *
     rw [IntWalk.wrap64_in (t : Int) (by omega), Int.natCast_add]
     exact IntWalk.wrap64_in _ (by omega)
    refine ⟨⟨q + 1, by omega, by go_num, by rw [HPT.out, hw], (HG2.out.ext' hq).congr HOWN.out (fun _ _ => rfl) rfl rfl, HT2.out.trans (Touch.of_ext hq)⟩, by simp [intOf]; omega⟩
   | false =>
    rw [hcc] at HCR hpt
    rw [if_neg (by simp)] at hpt
    have HPT := Lib.hid hpt
    clear hcc hpt
    go_upto_region 15 with fail
    refine region_reads (C := fun W => Ext WS W) (by kernel_rfl) (by kernel_rfl) ((Ext.refl WS).drew) ?_
    repeat (first | go_big_quiet_skip | (go_big_quiet_want; go_big_quiet_op; first | go_big_quiet_on | (refine ⟨_, fun W hW => rfl, ?_⟩; go_big_quiet_on)) | (go_big_quiet_want; refine ⟨?_, fun W hW => ?_, ?_⟩; rotate_left; (· (obtain ⟨p0, p1, p2, p3⟩ := HF.out W hW); go_simp; (first | with_reducible rfl | (go_at_call 79; refine (HCR.out W hW).mono ?_; rintro e w' ⟨rfl, hx1⟩; constructor; with_reducible rfl; exact hW.trans hx1))); (try simp only [Act.put, yA, yB, yC]); go_big_quiet_on))
    refine wpQuiet_nil ?_
    intro wq hq
    go_wp2
    refine ⟨⟨q + 1, by omega, by go_num, by rw [HPT.out]; rfl, (HG2.out.ext' hq).congr HOWN.out (fun _ _ => rfl) rfl rfl, HT2.out.trans (Touch.of_ext hq)⟩, by simp [intOf]; omega⟩
  ·have x1 : decide ((q : Int) < (x.org.length : Int)) = false := by simpa using hlt
   have hqe : q = x.org.length := by omega
   subst hqe
   have hpl := patTo_lt b x x.org.length
   have hpp : patTo b x x.org.length < L.p := by rw [HLS.out.p, ← HXL.out]; exact hpl
   have x2 : (0 : Int) ≤ (patTo b x x.org.length : Int) := by omega
   have x3 : (patTo b x x.org.length : Int) < (L.p : Int) := by omega
   have hG1 : Hid (AllG L w0 (ownRow b s (k + 1)) (fun r => (weaA b s k).getD r []) (patsTo b s k) (decide (0 < k)) wr) := AllG.congr hG.out (fun j hj => by rw [if_pos (by rw [HXL.out, ← HLS.out.n]; exact hj)]) (fun _ _ => rfl) rfl rfl
   obtain ⟨c0, cf, c1, c2, c3⟩ := hG1.out.c0
   have hplen : ((patsTo b s k).map Value.bool).length = L.p := by unfold patsTo; rw [List.length_map, List.length_map, List.length_range, HLS.out.p]
   obtain ⟨u, hu⟩ : ∃ u, ((patsTo b s k).map Value.bool)[patTo b x x.org.length]? = some u := ⟨_, List.getElem?_eq_getElem (by rw [hplen]; exact hpp)⟩
   have hcell := hG1.out.pat.cellAt (patTo b x x.org.length) (by omega)
   have hfr := hG1.out.pat.frozenAt (patTo b x x.org.length)
   rw [hu] at hcell
   obtain ⟨hG2, hT2⟩ := hG1.out.setPat (c := patTo b x x.org.length) HLB.out
   have HG2 : Hid (AllG L w0 (ownRow b s (k + 1)) (fun r => (weaA b s k).getD r []) (patsTo b s (k + 1)) (decide (0 < k)) (wr.setCell ⟨L.pg, patTo b x x.org.length, none⟩ (.bool true))) := hG2.congr (fun _ _ => rfl) (fun _ _ => rfl) (by rw [patsTo_succ HT.out, patternOf_eq]) rfl
   have HT2 := Lib.hid (hT.out.trans hT2)
   clear hplen hu hG2 hT2 hG hT hpl
   go_wp2
   obtain ⟨WP, hWP⟩ : ∃ WP, WP = wr.setCell ⟨L.pg, patTo b x x.org.length, none⟩ (.bool true) := ⟨_, rfl⟩
   rw [← hWP] at HG2 HT2 ⊢
   clear hWP hcell hfr c0 cf c1 c2 c3 hG1
   have hxw : x.wea.length = b.rivers.length := HST.out.len
   have HXW := Lib.hid hxw
   clear hxw
   go_loopw [17] (fun i wr => ∃ r : Nat, r ≤ x.wea.length ∧ i = .int .i64 (r : Int) ∧ Hid (AllG L w0 (ownRow b s (k + 1)) (fun j => if j < r then (weaA b s (k + 1)).getD j [] else (weaA b s k).getD j []) (patsTo b s (k + 1)) (decide (0 < k)) wr) ∧ Hid (Touch L.M W0 wr)) (fun i _ => x.wea.length - (intOf i).toNat)
   case atStart => exact ⟨0, Nat.zero_le _, rfl, HG2.out.congr (fun _ _ => rfl) (fun j _ => by rw [if_neg (by omega)]) rfl rfl, HT2.out⟩
   case round =>
    clear HG2 HT2
    obtain ⟨r, hr, rfl, hG, hT⟩ := hrel
    by_cases hrl : r < x.wea.length
    ·have y1' : decide ((r : Int) < (x.wea.length : Int)) = true := by simpa using hrl
     have y2' : (r : Int) < (x.wea.length : Int) := by omega
     have y3' : (0 : Int) ≤ (r : Int) := by omega
     have hrL : r < L.r := by rw [HLS.out.r, ← HXW.out]; exact hrl
     have y4' : (r : Int) < (L.r : Int) := by omega
     have hXR : Hid (∃ xr, x.wea[r]? = some xr ∧ x.wea.getD r [] = xr ∧ xr.length = Y) := by
      refine ⟨x.wea[r], List.getElem?_eq_getElem hrl, by rw [List.getD_eq_getElem?_getD, List.getElem?_eq_getElem hrl]; rfl, ?_⟩
      have h1 := HST.out.row _ (List.getElem_mem hrl)
      have h2 := HYY.out.1
      omega
     obtain ⟨xr, hxr1, hxr2, hxr3⟩ := hXR.out
     have HXR := Lib.hid (And.intro hxr1 (And.intro hxr2 hxr3))
     have HOL : Hid (((weaA b s k).getD r []).length = Y ∧ ((weaA b s (k + 1)).getD r []).length = Y) := by
      have hkl := (List.getElem?_eq_some_iff.1 HT.out).1
      have h1 := shape_row (weaA_shape hB hS (Nat.le_of_lt hkl)) (show r < b.rivers.length by rw [← HXW.out]; exact hrl)
      have h2 := shape_row (weaA_shape (k := k + 1) hB hS hkl) (show r < b.rivers.length by rw [← HXW.out]; exact hrl)
      have h3 := HYY.out.1
      exact ⟨by omega, by omega⟩
     have HLY : Hid (L.y = Y) := by unfold Hid; rw [HLS.out.y]; exact HYY.out.2
     clear hXR hxr1 hxr2 hxr3
     go_wp2
     go_loopw [18] (fun i wr => ∃ y : Nat, y ≤ Y ∧ i = .int .i64 (y : Int) ∧ Hid (AllG L w0 (ownRow b s (k + 1)) (fun j => if j = r then ((weaA b s (k + 1)).getD r []).take y ++ ((weaA b s k).getD r []).drop y else if j < r then (weaA b s (k + 1)).getD j [] else (weaA b s k).getD j []) (patsTo b s (k + 1)) (decide (0 < k)) wr) ∧ Hid (Touch L.M W0 wr)) (fun i _ => Y - (intOf i).toNat)
     case atStart => exact ⟨0, Nat.zero_le _, rfl, hG.out.congr (fun _ _ => rfl) (fun j _ => by
      by_cases e : j = r
      ·rw [if_pos e, e, if_neg (Nat.lt_irrefl _)]; rfl
      ·rw [if_neg e]) rfl rfl, hT.out⟩
     case round =>
      clear hG hT
      obtain ⟨y, hy, rfl, hG, hT⟩ := hrel
      have HW2 := Lib.hid (HW.out _ hT.out)
      obtain ⟨_, _, hwv, _, _, w3⟩ := SpansOff.open HW2.out
      cases hwv
      obtain ⟨wb, wo, rv, xr', rfl, hxr', d0, hrv⟩ := w3 r hrl
      have hxe : xr' = xr := by have := hxr'.out; rw [HXR.out.1] at this; exact (Option.some.inj this).symm
      subst hxe
      obtain ⟨va, vc, rfl, v1, v2, v3⟩ := hrv.open
      have hxl := HXR.out.2.2
      have HV3 := Lib.hid v3
      clear v3 w3 hrv
      by_cases hyl : y < Y
      ·have u1 : decide ((y : Int) < (xr'.length : Int)) = true := by simp; omega
       have u2 : (y : Int) < (xr'.length : Int) := by omega
       have u3 : (0 : Int) ≤ (y : Int) := by omega
       have u4 : (y : Int) < (L.y : Int) := by have := HLY.out; omega
       obtain ⟨vb, vo, xm, rfl, hxm, e0, e1⟩ := HV3.out y (by omega)
       obtain ⟨om, hom⟩ : ∃ om, ((weaA b s k).getD r [])[y]? = some om := ⟨_, List.getElem?_eq_getElem (by rw [HOL.out.1]; exact hyl)⟩
       have hnew := weaA_at HT.out hom (by rw [HXR.out.2.1]; exact hxm.out)
       have HNEW := Lib.hid hnew
       have hold := hG.out.wea r hrL
       rw [if_pos rfl] at hold
       obtain ⟨o0, o1⟩ := pair_cells hold (p := y) (by rw [mixt_get (by rw [HOL.out.1, HOL.out.2]) (by rw [HOL.out.1]; exact hyl)]; exact hom) (by have := HLY.out; omega)
       have of0 := hold.frozenAt (y * 2)
       have of1 := hold.frozenAt (y * 2 + 1)
       obtain ⟨c0, cf, c1, c2, c3⟩ := hG.out.c0
       have g0 := hG.out.ww r hrL
       obtain ⟨x1', x2'⟩ := xm
       obtain ⟨m1, m2⟩ := om
       simp only at e0 e1 o0 o1
       have hza := (Ext.refl wr).alloc (.cells #[.int .i64 x1', .int .i64 x2'] 52)
       have c0' := hza.cell c0
       have HFX := Lib.hid (fun W (h : Ext wr W) => (⟨h.cell c2, h.cell g0, h.cell o0, h.cell o1, (h.frozen (lt_of_cell o0)).trans of0, (h.frozen (lt_of_cell o1)).trans of1⟩ : W.cell? ⟨L.ab, 2, none⟩ = some (.slice (some ⟨L.wg, 0, none⟩) L.r L.wc) ∧ W.cell? ⟨L.wg, r, none⟩ = some (.slice (some ⟨L.hs r, 0, none⟩) L.y (L.cs r)) ∧ W.cell? ⟨L.hs r, y * 2, none⟩ = some (.int .i64 m1) ∧ W.cell? ⟨L.hs r, y * 2 + 1, none⟩ = some (.int .i64 m2) ∧ W.frozen? ⟨L.hs r, y * 2, none⟩ = false ∧ W.frozen? ⟨L.hs r, y * 2 + 1, none⟩ = false))
       have HZA := Lib.hid hza
       have b0 : (wr.alloc (.cells #[.int .i64 x1', .int .i64 x2'] 52)).cell? ⟨wr.heap.size, 0, none⟩ = some (.int .i64 x1') := (by go_simp)
       have b1 : (wr.alloc (.cells #[.int .i64 x1', .int .i64 x2'] 52)).cell? ⟨wr.heap.size, 1, none⟩ = some (.int .i64 x2') := (by go_simp)
       have bf0 : (wr.alloc (.cells #[.int .i64 x1', .int .i64 x2'] 52)).frozen? ⟨wr.heap.size, 0, none⟩ = false := (by go_simp)
       have bf1 : (wr.alloc (.cells #[.int .i64 x1', .int .i64 x2'] 52)).frozen? ⟨wr.heap.size, 1, none⟩ = false := (by go_simp)
       have HBX := Lib.hid (And.intro b0 (And.intro b1 (And.intro bf0 bf1)))
       clear b0 b1 bf0 bf1
       have HRL := Lib.hid hrL
       have HZG := Lib.hid (show L.hs r < wr.heap.size from lt_of_cell o0)
       clear hnew hold hom hza c1 c3 cf g0 o0 o1 of0 of1 hrL
       cases hany : decide (0 < k) with
       | false =>
        have hk0 : ¬ 0 < k := by simpa using hany
        rw [hany] at c0 c0' hG
        have HNW : Hid (((weaA b s (k + 1)).getD r [])[y]? = some (x1', x2')) := by have h := HNEW.out; rw [if_neg hk0] at h; exact h
        clear hk0 hany
        go_upto_region 27 with fail
        obtain ⟨WA, hWA⟩ : ∃ WA, WA = wr.alloc (.cells #[.int .i64 x1', .int .i64 x2'] 52) := ⟨_, rfl⟩
        rw [← hWA] at HZA HBX ⊢
        have HXA := Lib.hid HZA.out
        obtain ⟨b0, b1, -, -⟩ := HBX.out
        clear hWA c0 c0' HZA HBX
        obtain ⟨p1, hp1⟩ : ∃ p1, p1 = x1' := ⟨_, rfl⟩
        obtain ⟨p2, hp2⟩ : ∃ p2, p2 = x2' := ⟨_, rfl⟩
        rw [← hp1] at b0
        rw [← hp2] at b1
        rw [← hp1, ← hp2] at HNW
        clear hp1 hp2
        obtain ⟨q0, q1, q2, q3, qf0, qf1⟩ := HFX.out _ HXA.out
        refine wp_region_noPanic ?_
        refine wp_region_any (by kernel_rfl) (wpAny_of_till (z := 10) (S := (fun w' => w'.cell? ⟨L.ab, 2, none⟩ = some (.slice (some ⟨L.wg, 0, none⟩) L.r L.wc) ∧ w'.cell? ⟨L.wg, r, none⟩ = some (.slice (some ⟨L.hs r, 0, none⟩) L.y (L.cs r)) ∧ w'.cell? ⟨wr.heap.size, 0, none⟩ = some (.int .i64 p1) ∧ w'.cell? ⟨wr.heap.size, 1, none⟩ = some (.int .i64 p2))) _ _ _ _ ?_)
        change wpTill _ _ _ _ _ _ _ _ _ WA.drew
        have hS0 := (show (World.drew WA).cell? ⟨L.ab, 2, none⟩ = some (.slice (some ⟨L.wg, 0, none⟩) L.r L.wc) ∧ (World.drew WA).cell? ⟨L.wg, r, none⟩ = some (.slice (some ⟨L.hs r, 0, none⟩) L.y (L.cs r)) ∧ (World.drew WA).cell? ⟨wr.heap.size, 0, none⟩ = some (.int .i64 p1) ∧ (World.drew WA).cell? ⟨wr.heap.size, 1, none⟩ = some (.int .i64 p2) from ⟨q0, q1, b0, b1⟩)
        refine till_at (i := 0) (d := some 180) (v := ?_) (by kernel_rfl) (by kernel_rfl) (by kernel_rfl) (by kernel_rfl) (by kernel_rfl) (fun _ _ _ h => h) (fun o ho => ?_) hS0 ?_
        rotate_left
        ·simp only [zA, zB, zD] at ho
         subst ho
         refine Or.inl ⟨by rfl, fun w' hSw => ?_⟩
         obtain ⟨hSw0, hSw1, hSw2, hSw3⟩ := hSw
         go_simp
         try with_reducible rfl
        try simp only [Act.put, yA, yB, yC]
        refine till_at (i := 1) (d := some 181) (v := ?_) (by kernel_rfl) (by kernel_rfl) (by kernel_rfl) (by kernel_rfl) (by kernel_rfl) (fun _ _ _ h => h) (fun o ho => ?_) hS0 ?_
        rotate_left
        ·simp only [zA, zB, zC, zD] at ho
         subst ho
         refine Or.inl ⟨by rfl, fun w' hSw => ?_⟩
         obtain ⟨hSw0, hSw1, hSw2, hSw3⟩ := hSw
         go_simp
         try with_reducible rfl
        try simp only [Act.put, yA, yB, yC]
        refine till_at (i := 2) (d := some 182) (v := ?_) (by kernel_rfl) (by kernel_rfl) (by kernel_rfl) (by kernel_rfl) (by kernel_rfl) (fun _ _ _ h => h) (fun o ho => ?_) hS0 ?_
        rotate_left
        ·simp only [zA, zB, zC, zD] at ho
         subst ho
         refine Or.inl ⟨by rfl, fun w' hSw => ?_⟩
         obtain ⟨hSw0, hSw1, hSw2, hSw3⟩ := hSw
         go_simp
         try with_reducible rfl
        try simp only [Act.put, yA, yB, yC]
        refine till_at (i := 3) (d := some 183) (v := ?_) (by kernel_rfl) (by kernel_rfl) (by kernel_rfl) (by kernel_rfl) (by kernel_rfl) (fun _ _ _ h => h) (fun o ho => ?_) hS0 ?_
        rotate_left
        ·simp only [zA, zB, zC, zD] at ho
         subst ho
         refine Or.inl ⟨by rfl, fun w' hSw => ?_⟩
         obtain ⟨hSw0, hSw1, hSw2, hSw3⟩ := hSw
         go_simp
         try with_reducible rfl
        try simp only [Act.put, yA, yB, yC]
        refine till_at (i := 4) (d := some 184) (v := ?_) (by kernel_rfl) (by kernel_rfl) (by kernel_rfl) (by kernel_rfl) (by kernel_rfl) (fun _ _ _ h => h) (fun o ho => ?_) hS0 ?_
        rotate_left
        ·simp only [zA, zB, zC, zD] at ho
         subst ho
         refine Or.inl ⟨by rfl, fun w' hSw => ?_⟩
         obtain ⟨hSw0, hSw1, hSw2, hSw3⟩ := hSw
         go_simp
         try with_reducible rfl
        try simp only [Act.put, yA, yB, yC]
        refine till_at (i := 5) (d := some 185) (v := ?_) (by kernel_rfl) (by kernel_rfl) (by kernel_rfl) (by kernel_rfl) (by kernel_rfl) (fun _ _ _ h => h) (fun o ho => ?_) hS0 ?_
        rotate_left
        ·simp only [zA, zB, zC, zD] at ho
         subst ho
         refine Or.inl ⟨by rfl, fun w' hSw => ?_⟩
         obtain ⟨hSw0, hSw1, hSw2, hSw3⟩ := hSw
         go_simp
         try with_reducible rfl
        try simp only [Act.put, yA, yB, yC]
        refine till_at (i := 6) (d := some 186) (v := ?_) (by kernel_rfl) (by kernel_rfl) (by kernel_rfl) (by kernel_rfl) (by kernel_rfl) (fun _ _ _ h => h) (fun o ho => ?_) hS0 ?_
        rotate_left
        ·simp only [zA, zB, zC, zD] at ho
         subst ho
         refine Or.inl ⟨by rfl, fun w' hSw => ?_⟩
         obtain ⟨hSw0, hSw1, hSw2, hSw3⟩ := hSw
         go_simp
         try with_reducible rfl
        try simp only [Act.put, yA, yB, yC]
        refine till_at (i := 7) (d := some 187) (v := ?_) (by kernel_rfl) (by kernel_rfl) (by kernel_rfl) (by kernel_rfl) (by kernel_rfl) (fun _ _ _ h => h) (fun o ho => ?_) hS0 ?_
        rotate_left
        ·simp only [zA, zB, zC, zD] at ho
         subst ho
         refine Or.inl ⟨by rfl, fun w' hSw => ?_⟩
         obtain ⟨hSw0, hSw1, hSw2, hSw3⟩ := hSw
         go_simp
         try with_reducible rfl
        try simp only [Act.put, yA, yB, yC]
        refine till_at (i := 8) (d := some 188) (v := ?_) (by kernel_rfl) (by kernel_rfl) (by kernel_rfl) (by kernel_rfl) (by kernel_rfl) (fun _ _ _ h => h) (fun o ho => ?_) hS0 ?_
        rotate_left
        ·simp only [zA, zB, zC, zD] at ho
         subst ho
         refine Or.inl ⟨by rfl, fun w' hSw => ?_⟩
         obtain ⟨hSw0, hSw1, hSw2, hSw3⟩ := hSw
         go_simp
         try with_reducible rfl
        try simp only [Act.put, yA, yB, yC]
        refine till_at (i := 9) (d := some 189) (v := ?_) (by kernel_rfl) (by kernel_rfl) (by kernel_rfl) (by kernel_rfl) (by kernel_rfl) (fun _ _ _ h => h) (fun o ho => ?_) hS0 ?_
        rotate_left
        ·simp only [zA, zB, zC, zD] at ho
         subst ho
         refine Or.inl ⟨by rfl, fun w' hSw => ?_⟩
         obtain ⟨hSw0, hSw1, hSw2, hSw3⟩ := hSw
         go_simp
         try with_reducible rfl
        try simp only [Act.put, yA, yB, yC]
        refine till_step (i := 10) (by kernel_rfl) (by kernel_rfl) (fun o ho K' hK => ?_)
        simp only [zA, zB, zC, zD] at ho
        subst ho
        go_simp
        refine hK.out _ _ (fun h => absurd rfl h) (fun _ => ?_)
        clear hK K'
        try simp only [Act.put, yA, yB, yC]
        refine till_done (by kernel_rfl) ?_ _
        refine NoPanic.normal ?_
        try simp only [Act.put, yA, yB, yC]
        obtain ⟨hG4, hT4⟩ := AllG.setWea (c := y) HLB.out (AllG.ext' hG.out HXA.out) (p1, p2) HRL.out
        have HG4 := Lib.hid (AllG.ext' hG4 (Ext.refl ((WA.setCell ⟨L.hs r, y * 2, none⟩ (.int .i64 p1)).setCell ⟨L.hs r, y * 2 + 1, none⟩ (.int .i64 p2))).drew)
        have HT4 := Lib.hid (((hT.out.trans (Touch.of_ext HXA.out)).trans hT4).trans (Touch.of_ext (Ext.refl ((WA.setCell ⟨L.hs r, y * 2, none⟩ (.int .i64 p1)).setCell ⟨L.hs r, y * 2 + 1, none⟩ (.int .i64 p2))).drew))
        clear hG4 hT4 q0 q1 q2 q3 qf0 qf1 b0 b1 hS0
        go_wp2
        refine ⟨⟨y + 1, by omega, by go_num, HG4.out.congr (fun _ _ => rfl) (fun j hj => ?_) rfl rfl, HT4.out⟩, by simp [intOf]; omega⟩
        by_cases e : j = r
        ·subst e
         rw [if_pos rfl, if_pos rfl, if_pos rfl]
         exact mixt_set (by rw [HOL.out.1, HOL.out.2]) HNW.out
        ·rw [if_neg e, if_neg e, if_neg e]
       | true =>
        have hk0 : 0 < k := by simpa using hany
        rw [hany] at c0 c0' hG
        have HNW : Hid (((weaA b s (k + 1)).getD r [])[y]? = some (min x1' m1, max x2' m2)) := by
         have h := HNEW.out
         rw [if_pos hk0] at h
         unfold hull at h
         rw [Int.min_comm, Int.max_comm]
         exact h
        clear hk0 hany
        go_upto_region 26 with fail
        obtain ⟨WB, hWB⟩ : ∃ WB, WB = wr.alloc (.cells #[.int .i64 x1', .int .i64 x2'] 52) := ⟨_, rfl⟩
        rw [← hWB] at HZA HBX ⊢
        obtain ⟨b0, b1, bf0, bf1⟩ := HBX.out
        obtain ⟨q0, q1, q2, q3, -, -⟩ := HFX.out _ HZA.out
        clear hWB c0 c0' HBX
        refine wp_region_noPanic ?_
        refine wp_region_any (by kernel_rfl) (wpAny_of_till (z := 29) (S := (fun w' => w'.cell? ⟨wr.heap.size, 0, none⟩ = some (.int .i64 x1') ∧ w'.cell? ⟨wr.heap.size, 1, none⟩ = some (.int .i64 x2') ∧ w'.cell? ⟨L.ab, 2, none⟩ = some (.slice (some ⟨L.wg, 0, none⟩) L.r L.wc) ∧ w'.cell? ⟨L.wg, r, none⟩ = some (.slice (some ⟨L.hs r, 0, none⟩) L.y (L.cs r)) ∧ w'.cell? ⟨L.hs r, y * 2, none⟩ = some (.int .i64 m1) ∧ w'.cell? ⟨L.hs r, y * 2 + 1, none⟩ = some (.int .i64 m2))) _ _ _ _ ?_)
        change wpTill _ _ _ _ _ _ _ _ _ WB.drew
        have hS0 := (show (World.drew WB).cell? ⟨wr.heap.size, 0, none⟩ = some (.int .i64 x1') ∧ (World.drew WB).cell? ⟨wr.heap.size, 1, none⟩ = some (.int .i64 x2') ∧ (World.drew WB).cell? ⟨L.ab, 2, none⟩ = some (.slice (some ⟨L.wg, 0, none⟩) L.r L.wc) ∧ (World.drew WB).cell? ⟨L.wg, r, none⟩ = some (.slice (some ⟨L.hs r, 0, none⟩) L.y (L.cs r)) ∧ (World.drew WB).cell? ⟨L.hs r, y * 2, none⟩ = some (.int .i64 m1) ∧ (World.drew WB).cell? ⟨L.hs r, y * 2 + 1, none⟩ = some (.int .i64 m2) from ⟨b0, b1, q0, q1, q2, q3⟩)
        refine till_at (i := 0) (d := some 151) (v := ?_) (by kernel_rfl) (by kernel_rfl) (by kernel_rfl) (by kernel_rfl) (by kernel_rfl) (fun _ _ _ h => h) (fun o ho => ?_) hS0 ?_
        rotate_left
        ·simp only [zA, zB, zD] at ho
         subst ho
         refine Or.inl ⟨by rfl, fun w' hSw => ?_⟩
         obtain ⟨hSw0, hSw1, hSw2, hSw3, hSw4, hSw5⟩ := hSw
         go_simp
         try with_reducible rfl
        try simp only [Act.put, yA, yB, yC]
        refine till_at (i := 1) (d := some 152) (v := ?_) (by kernel_rfl) (by kernel_rfl) (by kernel_rfl) (by kernel_rfl) (by kernel_rfl) (fun _ _ _ h => h) (fun o ho => ?_) hS0 ?_
        rotate_left
        ·simp only [zA, zB, zC, zD] at ho
         subst ho
         refine Or.inl ⟨by rfl, fun w' hSw => ?_⟩
         obtain ⟨hSw0, hSw1, hSw2, hSw3, hSw4, hSw5⟩ := hSw
         go_simp
         try with_reducible rfl
        try simp only [Act.put, yA, yB, yC]
        refine till_at (i := 2) (d := some 153) (v := ?_) (by kernel_rfl) (by kernel_rfl) (by kernel_rfl) (by kernel_rfl) (by kernel_rfl) (fun _ _ _ h => h) (fun o ho => ?_) hS0 ?_
        rotate_left
        ·simp only [zA, zB, zC, zD] at ho
         subst ho
         refine Or.inl ⟨by rfl, fun w' hSw => ?_⟩
         obtain ⟨hSw0, hSw1, hSw2, hSw3, hSw4, hSw5⟩ := hSw
         go_simp
         try with_reducible rfl
        try simp only [Act.put, yA, yB, yC]
        refine till_at (i := 3) (d := some 154) (v := ?_) (by kernel_rfl) (by kernel_rfl) (by kernel_rfl) (by kernel_rfl) (by kernel_rfl) (fun _ _ _ h => h) (fun o ho => ?_) hS0 ?_
        rotate_left
        ·simp only [zA, zB, zC, zD] at ho
         subst ho
         refine Or.inl ⟨by rfl, fun w' hSw => ?_⟩
         obtain ⟨hSw0, hSw1, hSw2, hSw3, hSw4, hSw5⟩ := hSw
         go_simp
         try with_reducible rfl
        try simp only [Act.put, yA, yB, yC]
        refine till_at (i := 4) (d := some 155) (v := ?_) (by kernel_rfl) (by kernel_rfl) (by kernel_rfl) (by kernel_rfl) (by kernel_rfl) (fun _ _ _ h => h) (fun o ho => ?_) hS0 ?_
        rotate_left
        ·simp only [zA, zB, zC, zD] at ho
         subst ho
         refine Or.inl ⟨by rfl, fun w' hSw => ?_⟩
         obtain ⟨hSw0, hSw1, hSw2, hSw3, hSw4, hSw5⟩ := hSw
         go_simp
         try with_reducible rfl
        try simp only [Act.put, yA, yB, yC]
        refine till_at (i := 5) (d := some 156) (v := ?_) (by kernel_rfl) (by kernel_rfl) (by kernel_rfl) (by kernel_rfl) (by kernel_rfl) (fun _ _ _ h => h) (fun o ho => ?_) hS0 ?_
        rotate_left
        ·simp only [zA, zB, zC, zD] at ho
         subst ho
         refine Or.inl ⟨by rfl, fun w' hSw => ?_⟩
         obtain ⟨hSw0, hSw1, hSw2, hSw3, hSw4, hSw5⟩ := hSw
         go_simp
         try with_reducible rfl
        try simp only [Act.put, yA, yB, yC]
        refine till_at (i := 6) (d := some 157) (v := ?_) (by kernel_rfl) (by kernel_rfl) (by kernel_rfl) (by kernel_rfl) (by kernel_rfl) (fun _ _ _ h => h) (fun o ho => ?_) hS0 ?_
        rotate_left
        ·simp only [zA, zB, zC, zD] at ho
         subst ho
         refine Or.inl ⟨by rfl, fun w' hSw => ?_⟩
         obtain ⟨hSw0, hSw1, hSw2, hSw3, hSw4, hSw5⟩ := hSw
         go_simp
         try with_reducible rfl
        try simp only [Act.put, yA, yB, yC]
        refine till_at (i := 7) (d := some 158) (v := ?_) (by kernel_rfl) (by kernel_rfl) (by kernel_rfl) (by kernel_rfl) (by kernel_rfl) (fun _ _ _ h => h) (fun o ho => ?_) hS0 ?_
        rotate_left
        ·simp only [zA, zB, zC, zD] at ho
         subst ho
         refine Or.inl ⟨by rfl, fun w' hSw => ?_⟩
         obtain ⟨hSw0, hSw1, hSw2, hSw3, hSw4, hSw5⟩ := hSw
         go_simp
         try with_reducible rfl
        try simp only [Act.put, yA, yB, yC]
        refine till_at (i := 8) (d := some 159) (v := ?_) (by kernel_rfl) (by kernel_rfl) (by kernel_rfl) (by kernel_rfl) (by kernel_rfl) (fun _ _ _ h => h) (fun o ho => ?_) hS0 ?_
        rotate_left
        ·simp only [zA, zB, zC, zD] at ho
         subst ho
         refine Or.inl ⟨by rfl, fun w' hSw => ?_⟩
         obtain ⟨hSw0, hSw1, hSw2, hSw3, hSw4, hSw5⟩ := hSw
         go_simp
         try with_reducible rfl
        try simp only [Act.put, yA, yB, yC]
        refine till_at (i := 9) (d := some 160) (v := ?_) (by kernel_rfl) (by kernel_rfl) (by kernel_rfl) (by kernel_rfl) (by kernel_rfl) (fun _ _ _ h => h) (fun o ho => ?_) hS0 ?_
        rotate_left
        ·simp only [zA, zB, zC, zD] at ho
         subst ho
         refine Or.inl ⟨by rfl, fun w' hSw => ?_⟩
         obtain ⟨hSw0, hSw1, hSw2, hSw3, hSw4, hSw5⟩ := hSw
         go_simp
         try with_reducible rfl
        try simp only [Act.put, yA, yB, yC]
        refine till_at (i := 10) (d := some 161) (v := ?_) (by kernel_rfl) (by kernel_rfl) (by kernel_rfl) (by kernel_rfl) (by kernel_rfl) (fun _ _ _ h => h) (fun o ho => ?_) hS0 ?_
        rotate_left
        ·simp only [zA, zB, zC, zD] at ho
         subst ho
         refine Or.inl ⟨by rfl, fun w' hSw => ?_⟩
         obtain ⟨hSw0, hSw1, hSw2, hSw3, hSw4, hSw5⟩ := hSw
         go_simp
         try with_reducible rfl
        try simp only [Act.put, yA, yB, yC]
        refine till_at (i := 11) (d := some 162) (v := ?_) (by kernel_rfl) (by kernel_rfl) (by kernel_rfl) (by kernel_rfl) (by kernel_rfl) (fun _ _ _ h => h) (fun o ho => ?_) hS0 ?_
        rotate_left
        ·simp only [zA, zB, zC, zD] at ho
         subst ho
         refine Or.inl ⟨by rfl, fun w' hSw => ?_⟩
         obtain ⟨hSw0, hSw1, hSw2, hSw3, hSw4, hSw5⟩ := hSw
         go_simp
         try with_reducible rfl
        try simp only [Act.put, yA, yB, yC]
        refine till_at (i := 12) (d := some 163) (v := ?_) (by kernel_rfl) (by kernel_rfl) (by kernel_rfl) (by kernel_rfl) (by kernel_rfl) (fun _ _ _ h => h) (fun o ho => ?_) hS0 ?_
        rotate_left
        ·simp only [zA, zB, zC, zD] at ho
         subst ho
         refine Or.inl ⟨by rfl, fun w' hSw => ?_⟩
         obtain ⟨hSw0, hSw1, hSw2, hSw3, hSw4, hSw5⟩ := hSw
         go_simp
         try with_reducible rfl
        try simp only [Act.put, yA, yB, yC]
        refine till_at (i := 13) (d := some 164) (v := ?_) (by kernel_rfl) (by kernel_rfl) (by kernel_rfl) (by kernel_rfl) (by kernel_rfl) (fun _ _ _ h => h) (fun o ho => ?_) hS0 ?_
        rotate_left
        ·simp only [zA, zB, zC, zD] at ho
         subst ho
         refine Or.inl ⟨by rfl, fun w' hSw => ?_⟩
         obtain ⟨hSw0, hSw1, hSw2, hSw3, hSw4, hSw5⟩ := hSw
         go_simp
         try with_reducible rfl
        try simp only [Act.put, yA, yB, yC]
        refine till_at (i := 14) (d := some 165) (v := ?_) (by kernel_rfl) (by kernel_rfl) (by kernel_rfl) (by kernel_rfl) (by kernel_rfl) (fun _ _ _ h => h) (fun o ho => ?_) hS0 ?_
        rotate_left
        ·simp only [zA, zB, zC, zD] at ho
         subst ho
         refine Or.inl ⟨by rfl, fun w' hSw => ?_⟩
         obtain ⟨hSw0, hSw1, hSw2, hSw3, hSw4, hSw5⟩ := hSw
         go_simp
         try with_reducible rfl
        try simp only [Act.put, yA, yB, yC]
        refine till_at (i := 15) (d := some 166) (v := ?_) (by kernel_rfl) (by kernel_rfl) (by kernel_rfl) (by kernel_rfl) (by kernel_rfl) (fun _ _ _ h => h) (fun o ho => ?_) hS0 ?_
        rotate_left
        ·simp only [zA, zB, zC, zD] at ho
         subst ho
         refine Or.inl ⟨by rfl, fun w' hSw => ?_⟩
         obtain ⟨hSw0, hSw1, hSw2, hSw3, hSw4, hSw5⟩ := hSw
         go_simp
         try with_reducible rfl
        try simp only [Act.put, yA, yB, yC]
        refine till_at (i := 16) (d := some 167) (v := ?_) (by kernel_rfl) (by kernel_rfl) (by kernel_rfl) (by kernel_rfl) (by kernel_rfl) (fun _ _ _ h => h) (fun o ho => ?_) hS0 ?_
        rotate_left
        ·simp only [zA, zB, zC, zD] at ho
         subst ho
         refine Or.inl ⟨by rfl, fun w' hSw => ?_⟩
         obtain ⟨hSw0, hSw1, hSw2, hSw3, hSw4, hSw5⟩ := hSw
         go_simp
         try with_reducible rfl
        try simp only [Act.put, yA, yB, yC]
        refine till_at (i := 17) (d := some 168) (v := ?_) (by kernel_rfl) (by kernel_rfl) (by kernel_rfl) (by kernel_rfl) (by kernel_rfl) (fun _ _ _ h => h) (fun o ho => ?_) hS0 ?_
        rotate_left
        ·simp only [zA, zB, zC, zD] at ho
         subst ho
         refine Or.inl ⟨by rfl, fun w' hSw => ?_⟩
         obtain ⟨hSw0, hSw1, hSw2, hSw3, hSw4, hSw5⟩ := hSw
         go_simp
         try with_reducible rfl
        try simp only [Act.put, yA, yB, yC]
        refine till_at (i := 18) (d := some 169) (v := ?_) (by kernel_rfl) (by kernel_rfl) (by kernel_rfl) (by kernel_rfl) (by kernel_rfl) (fun _ _ _ h => h) (fun o ho => ?_) hS0 ?_
        rotate_left
        ·simp only [zA, zB, zC, zD] at ho
         subst ho
         refine Or.inl ⟨by rfl, fun w' hSw => ?_⟩
         obtain ⟨hSw0, hSw1, hSw2, hSw3, hSw4, hSw5⟩ := hSw
         go_simp
         try with_reducible rfl
        try simp only [Act.put, yA, yB, yC]
        refine till_at (i := 19) (d := some 170) (v := ?_) (by kernel_rfl) (by kernel_rfl) (by kernel_rfl) (by kernel_rfl) (by kernel_rfl) (fun _ _ _ h => h) (fun o ho => ?_) hS0 ?_
        rotate_left
        ·simp only [zA, zB, zC, zD] at ho
         subst ho
         refine Or.inl ⟨by rfl, fun w' hSw => ?_⟩
         obtain ⟨hSw0, hSw1, hSw2, hSw3, hSw4, hSw5⟩ := hSw
         go_simp
         try with_reducible rfl
        try simp only [Act.put, yA, yB, yC]
        refine till_at (i := 20) (d := some 171) (v := ?_) (by kernel_rfl) (by kernel_rfl) (by kernel_rfl) (by kernel_rfl) (by kernel_rfl) (fun _ _ _ h => h) (fun o ho => ?_) hS0 ?_
        rotate_left
        ·simp only [zA, zB, zC, zD] at ho
         subst ho
         refine Or.inl ⟨by rfl, fun w' hSw => ?_⟩
         obtain ⟨hSw0, hSw1, hSw2, hSw3, hSw4, hSw5⟩ := hSw
         go_simp
         try with_reducible rfl
        try simp only [Act.put, yA, yB, yC]
        refine till_at (i := 21) (d := some 172) (v := ?_) (by kernel_rfl) (by kernel_rfl) (by kernel_rfl) (by kernel_rfl) (by kernel_rfl) (fun _ _ _ h => h) (fun o ho => ?_) hS0 ?_
        rotate_left
        ·simp only [zA, zB, zC, zD] at ho
         subst ho
         refine Or.inl ⟨by rfl, fun w' hSw => ?_⟩
         obtain ⟨hSw0, hSw1, hSw2, hSw3, hSw4, hSw5⟩ := hSw
         go_simp
         try with_reducible rfl
        try simp only [Act.put, yA, yB, yC]
        refine till_at (i := 22) (d := some 173) (v := ?_) (by kernel_rfl) (by kernel_rfl) (by kernel_rfl) (by kernel_rfl) (by kernel_rfl) (fun _ _ _ h => h) (fun o ho => ?_) hS0 ?_
        rotate_left
        ·simp only [zA, zB, zC, zD] at ho
         subst ho
         refine Or.inl ⟨by rfl, fun w' hSw => ?_⟩
         obtain ⟨hSw0, hSw1, hSw2, hSw3, hSw4, hSw5⟩ := hSw
         go_simp
         try with_reducible rfl
        try simp only [Act.put, yA, yB, yC]
        refine till_at (i := 23) (d := some 174) (v := ?_) (by kernel_rfl) (by kernel_rfl) (by kernel_rfl) (by kernel_rfl) (by kernel_rfl) (fun _ _ _ h => h) (fun o ho => ?_) hS0 ?_
        rotate_left
        ·simp only [zA, zB, zC, zD] at ho
         subst ho
         refine Or.inl ⟨by rfl, fun w' hSw => ?_⟩
         obtain ⟨hSw0, hSw1, hSw2, hSw3, hSw4, hSw5⟩ := hSw
         go_simp
         try with_reducible rfl
        try simp only [Act.put, yA, yB, yC]
        refine till_at (i := 24) (d := some 175) (v := ?_) (by kernel_rfl) (by kernel_rfl) (by kernel_rfl) (by kernel_rfl) (by kernel_rfl) (fun _ _ _ h => h) (fun o ho => ?_) hS0 ?_
        rotate_left
        ·simp only [zA, zB, zC, zD] at ho
         subst ho
         refine Or.inl ⟨by rfl, fun w' hSw => ?_⟩
         obtain ⟨hSw0, hSw1, hSw2, hSw3, hSw4, hSw5⟩ := hSw
         go_simp
         try with_reducible rfl
        try simp only [Act.put, yA, yB, yC]
        refine till_at (i := 25) (d := some 176) (v := ?_) (by kernel_rfl) (by kernel_rfl) (by kernel_rfl) (by kernel_rfl) (by kernel_rfl) (fun _ _ _ h => h) (fun o ho => ?_) hS0 ?_
        rotate_left
        ·simp only [zA, zB, zC, zD] at ho
         subst ho
         refine Or.inl ⟨by rfl, fun w' hSw => ?_⟩
         obtain ⟨hSw0, hSw1, hSw2, hSw3, hSw4, hSw5⟩ := hSw
         go_simp
         try with_reducible rfl
        try simp only [Act.put, yA, yB, yC]
        refine till_at (i := 26) (d := some 177) (v := ?_) (by kernel_rfl) (by kernel_rfl) (by kernel_rfl) (by kernel_rfl) (by kernel_rfl) (fun _ _ _ h => h) (fun o ho => ?_) hS0 ?_
        rotate_left
        ·simp only [zA, zB, zC, zD] at ho
         subst ho
         refine Or.inl ⟨by rfl, fun w' hSw => ?_⟩
         obtain ⟨hSw0, hSw1, hSw2, hSw3, hSw4, hSw5⟩ := hSw
         go_simp
         try with_reducible rfl
        try simp only [Act.put, yA, yB, yC]
        refine till_at (i := 27) (d := some 178) (v := ?_) (by kernel_rfl) (by kernel_rfl) (by kernel_rfl) (by kernel_rfl) (by kernel_rfl) (fun _ _ _ h => h) (fun o ho => ?_) hS0 ?_
        rotate_left
        ·simp only [zA, zB, zC, zD] at ho
         subst ho
         refine Or.inl ⟨by rfl, fun w' hSw => ?_⟩
         obtain ⟨hSw0, hSw1, hSw2, hSw3, hSw4, hSw5⟩ := hSw
         go_simp
         try with_reducible rfl
        try simp only [Act.put, yA, yB, yC]
        refine till_at (i := 28) (d := some 179) (v := ?_) (by kernel_rfl) (by kernel_rfl) (by kernel_rfl) (by kernel_rfl) (by kernel_rfl) (fun _ _ _ h => h) (fun o ho => ?_) hS0 ?_
        rotate_left
        ·simp only [zA, zB, zC, zD] at ho
         subst ho
         refine Or.inl ⟨by rfl, fun w' hSw => ?_⟩
         obtain ⟨hSw0, hSw1, hSw2, hSw3, hSw4, hSw5⟩ := hSw
         go_simp
         try with_reducible rfl
        try simp only [Act.put, yA, yB, yC]
        refine till_step (i := 29) (by kernel_rfl) (by kernel_rfl) (fun o ho K' hK => ?_)
        simp only [zA, zB, zC, zD] at ho
        subst ho
        go_simp
        refine hK.out _ _ (fun h => absurd rfl h) (fun _ => ?_)
        clear hK K'
        try simp only [Act.put, yA, yB, yC]
        refine till_done (by kernel_rfl) ?_ _
        refine NoPanic.normal ?_
        try simp only [Act.put, yA, yB, yC]
        have HXA : Hid (Ext wr ((WB.setCell ⟨wr.heap.size, 0, none⟩ (.int .i64 (min x1' m1))).setCell ⟨wr.heap.size, 1, none⟩ (.int .i64 (max x2' m2))).drew) := ((HZA.out.setCell (p := ⟨wr.heap.size, 0, none⟩) (Nat.le_refl _) _).setCell (p := ⟨wr.heap.size, 1, none⟩) (Nat.le_refl _) _).drew
        have hbox := Box2.set ⟨b0, b1, bf0, bf1⟩ (.int .i64 (min x1' m1)) (.int .i64 (max x2' m2))
        obtain ⟨b0', b1', -, -⟩ := hbox.ext (Ext.refl _).drew
        clear b0 b1 bf0 bf1 q0 q1 q2 q3 HZA hbox
        generalize ((WB.setCell ⟨wr.heap.size, 0, none⟩ (.int .i64 (min x1' m1))).setCell ⟨wr.heap.size, 1, none⟩ (.int .i64 (max x2' m2))).drew = WA at *
        have b0 := b0'
        have b1 := b1'
        clear b0' b1'
        generalize min x1' m1 = p1 at *
        generalize max x2' m2 = p2 at *
        go_upto_region 27 with fail
        obtain ⟨q0, q1, q2, q3, qf0, qf1⟩ := HFX.out _ HXA.out
        refine wp_region_noPanic ?_
        refine wp_region_any (by kernel_rfl) (wpAny_of_till (z := 10) (S := (fun w' => w'.cell? ⟨L.ab, 2, none⟩ = some (.slice (some ⟨L.wg, 0, none⟩) L.r L.wc) ∧ w'.cell? ⟨L.wg, r, none⟩ = some (.slice (some ⟨L.hs r, 0, none⟩) L.y (L.cs r)) ∧ w'.cell? ⟨wr.heap.size, 0, none⟩ = some (.int .i64 p1) ∧ w'.cell? ⟨wr.heap.size, 1, none⟩ = some (.int .i64 p2))) _ _ _ _ ?_)
        change wpTill _ _ _ _ _ _ _ _ _ WA.drew
        have hS0 := (show (World.drew WA).cell? ⟨L.ab, 2, none⟩ = some (.slice (some ⟨L.wg, 0, none⟩) L.r L.wc) ∧ (World.drew WA).cell? ⟨L.wg, r, none⟩ = some (.slice (some ⟨L.hs r, 0, none⟩) L.y (L.cs r)) ∧ (World.drew WA).cell? ⟨wr.heap.size, 0, none⟩ = some (.int .i64 p1) ∧ (World.drew WA).cell? ⟨wr.heap.size, 1, none⟩ = some (.int .i64 p2) from ⟨q0, q1, b0, b1⟩)
        refine till_at (i := 0) (d := some 180) (v := ?_) (by kernel_rfl) (by kernel_rfl) (by kernel_rfl) (by kernel_rfl) (by kernel_rfl) (fun _ _ _ h => h) (fun o ho => ?_) hS0 ?_
        rotate_left
        ·simp only [zA, zB, zD] at ho
         subst ho
         refine Or.inl ⟨by rfl, fun w' hSw => ?_⟩
         obtain ⟨hSw0, hSw1, hSw2, hSw3⟩ := hSw
         go_simp
         try with_reducible rfl
        try simp only [Act.put, yA, yB, yC]
        refine till_at (i := 1) (d := some 181) (v := ?_) (by kernel_rfl) (by kernel_rfl) (by kernel_rfl) (by kernel_rfl) (by kernel_rfl) (fun _ _ _ h => h) (fun o ho => ?_) hS0 ?_
        rotate_left
        ·simp only [zA, zB, zC, zD] at ho
         subst ho
         refine Or.inl ⟨by rfl, fun w' hSw => ?_⟩
         obtain ⟨hSw0, hSw1, hSw2, hSw3⟩ := hSw
         go_simp
         try with_reducible rfl
        try simp only [Act.put, yA, yB, yC]
        refine till_at (i := 2) (d := some 182) (v := ?_) (by kernel_rfl) (by kernel_rfl) (by kernel_rfl) (by kernel_rfl) (by kernel_rfl) (fun _ _ _ h => h) (fun o ho => ?_) hS0 ?_
        rotate_left
        ·simp only [zA, zB, zC, zD] at ho
         subst ho
         refine Or.inl ⟨by rfl, fun w' hSw => ?_⟩
         obtain ⟨hSw0, hSw1, hSw2, hSw3⟩ := hSw
         go_simp
         try with_reducible rfl
        try simp only [Act.put, yA, yB, yC]
        refine till_at (i := 3) (d := some 183) (v := ?_) (by kernel_rfl) (by kernel_rfl) (by kernel_rfl) (by kernel_rfl) (by kernel_rfl) (fun _ _ _ h => h) (fun o ho => ?_) hS0 ?_
        rotate_left
        ·simp only [zA, zB, zC, zD] at ho
         subst ho
         refine Or.inl ⟨by rfl, fun w' hSw => ?_⟩
         obtain ⟨hSw0, hSw1, hSw2, hSw3⟩ := hSw
         go_simp
         try with_reducible rfl
        try simp only [Act.put, yA, yB, yC]
        refine till_at (i := 4) (d := some 184) (v := ?_) (by kernel_rfl) (by kernel_rfl) (by kernel_rfl) (by kernel_rfl) (by kernel_rfl) (fun _ _ _ h => h) (fun o ho => ?_) hS0 ?_
        rotate_left
        ·simp only [zA, zB, zC, zD] at ho
         subst ho
         refine Or.inl ⟨by rfl, fun w' hSw => ?_⟩
         obtain ⟨hSw0, hSw1, hSw2, hSw3⟩ := hSw
         go_simp
         try with_reducible rfl
        try simp only [Act.put, yA, yB, yC]
        refine till_at (i := 5) (d := some 185) (v := ?_) (by kernel_rfl) (by kernel_rfl) (by kernel_rfl) (by kernel_rfl) (by kernel_rfl) (fun _ _ _ h => h) (fun o ho => ?_) hS0 ?_
        rotate_left
        ·simp only [zA, zB, zC, zD] at ho
         subst ho
         refine Or.inl ⟨by rfl, fun w' hSw => ?_⟩
         obtain ⟨hSw0, hSw1, hSw2, hSw3⟩ := hSw
         go_simp
         try with_reducible rfl
        try simp only [Act.put, yA, yB, yC]
        refine till_at (i := 6) (d := some 186) (v := ?_) (by kernel_rfl) (by kernel_rfl) (by kernel_rfl) (by kernel_rfl) (by kernel_rfl) (fun _ _ _ h => h) (fun o ho => ?_) hS0 ?_
        rotate_left
        ·simp only [zA, zB, zC, zD] at ho
         subst ho
         refine Or.inl ⟨by rfl, fun w' hSw => ?_⟩
         obtain ⟨hSw0, hSw1, hSw2, hSw3⟩ := hSw
         go_simp
         try with_reducible rfl
        try simp only [Act.put, yA, yB, yC]
        refine till_at (i := 7) (d := some 187) (v := ?_) (by kernel_rfl) (by kernel_rfl) (by kernel_rfl) (by kernel_rfl) (by kernel_rfl) (fun _ _ _ h => h) (fun o ho => ?_) hS0 ?_
        rotate_left
        ·simp only [zA, zB, zC, zD] at ho
         subst ho
         refine Or.inl ⟨by rfl, fun w' hSw => ?_⟩
         obtain ⟨hSw0, hSw1, hSw2, hSw3⟩ := hSw
         go_simp
         try with_reducible rfl
        try simp only [Act.put, yA, yB, yC]
        refine till_at (i := 8) (d := some 188) (v := ?_) (by kernel_rfl) (by kernel_rfl) (by kernel_rfl) (by kernel_rfl) (by kernel_rfl) (fun _ _ _ h => h) (fun o ho => ?_) hS0 ?_
        rotate_left
        ·simp only [zA, zB, zC, zD] at ho
         subst ho
         refine Or.inl ⟨by rfl, fun w' hSw => ?_⟩
         obtain ⟨hSw0, hSw1, hSw2, hSw3⟩ := hSw
         go_simp
         try with_reducible rfl
        try simp only [Act.put, yA, yB, yC]
        refine till_at (i := 9) (d := some 189) (v := ?_) (by kernel_rfl) (by kernel_rfl) (by kernel_rfl) (by kernel_rfl) (by kernel_rfl) (fun _ _ _ h => h) (fun o ho => ?_) hS0 ?_
        rotate_left
        ·simp only [zA, zB, zC, zD] at ho
         subst ho
         refine Or.inl ⟨by rfl, fun w' hSw => ?_⟩
         obtain ⟨hSw0, hSw1, hSw2, hSw3⟩ := hSw
         go_simp
         try with_reducible rfl
        try simp only [Act.put, yA, yB, yC]
        refine till_step (i := 10) (by kernel_rfl) (by kernel_rfl) (fun o ho K' hK => ?_)
        simp only [zA, zB, zC, zD] at ho
        subst ho
        go_simp
        refine hK.out _ _ (fun h => absurd rfl h) (fun _ => ?_)
        clear hK K'
        try simp only [Act.put, yA, yB, yC]
        refine till_done (by kernel_rfl) ?_ _
        refine NoPanic.normal ?_
        try simp only [Act.put, yA, yB, yC]
        obtain ⟨hG4, hT4⟩ := AllG.setWea (c := y) HLB.out (AllG.ext' hG.out HXA.out) (p1, p2) HRL.out
        have HG4 := Lib.hid (AllG.ext' hG4 (Ext.refl ((WA.setCell ⟨L.hs r, y * 2, none⟩ (.int .i64 p1)).setCell ⟨L.hs r, y * 2 + 1, none⟩ (.int .i64 p2))).drew)
        have HT4 := Lib.hid (((hT.out.trans (Touch.of_ext HXA.out)).trans hT4).trans (Touch.of_ext (Ext.refl ((WA.setCell ⟨L.hs r, y * 2, none⟩ (.int .i64 p1)).setCell ⟨L.hs r, y * 2 + 1, none⟩ (.int .i64 p2))).drew))
        clear hG4 hT4 q0 q1 q2 q3 qf0 qf1 b0 b1 hS0
        go_wp2
        refine ⟨⟨y + 1, by omega, by go_num, HG4.out.congr (fun _ _ => rfl) (fun j hj => ?_) rfl rfl, HT4.out⟩, by simp [intOf]; omega⟩
        by_cases e : j = r
        ·subst e
         rw [if_pos rfl, if_pos rfl, if_pos rfl]
         exact mixt_set (by rw [HOL.out.1, HOL.out.2]) HNW.out
        ·rw [if_neg e, if_neg e, if_neg e]
      ·have u1 : decide ((y : Int) < (xr'.length : Int)) = false := by simp; omega
       have hye : y = Y := by omega
       subst hye
       have hl1 := HOL.out.1
       have hl2 := HOL.out.2
       have HGE : Hid (AllG L w0 (ownRow b s (k + 1)) (fun j => if j < r + 1 then (weaA b s (k + 1)).getD j [] else (weaA b s k).getD j []) (patsTo b s (k + 1)) (decide (0 < k)) wr) := AllG.congr hG.out (fun _ _ => rfl) (fun j hj => by
        by_cases e : j = r
        ·rw [if_pos e, e, if_pos (Nat.lt_succ_self _), List.take_of_length_le (by omega), List.drop_eq_nil_of_le (by omega), List.append_nil]
        ·rw [if_neg e]
         by_cases e2 : j < r
         ·rw [if_pos e2, if_pos (by omega)]
         ·rw [if_neg e2, if_neg (by omega)]) rfl rfl
       clear hl1 hl2 hG
       go_wp2
       exact ⟨⟨r + 1, by omega, by go_num, HGE.out, hT⟩, by simp [intOf]; omega⟩
    ·have y1' : decide ((r : Int) < (x.wea.length : Int)) = false := by simpa using hrl
     have hre : r = x.wea.length := by omega
     subst hre
     have HGE : Hid (AllG L w0 (ownRow b s (k + 1)) (fun j => (weaA b s (k + 1)).getD j []) (patsTo b s (k + 1)) (decide (0 < k)) wr) := AllG.congr hG.out (fun _ _ => rfl) (fun j hj => by rw [if_pos (by rw [HXW.out, ← HLS.out.r]; exact hj)]) rfl rfl
     obtain ⟨c0, cf, -, -, -⟩ := HGE.out.c0
     obtain ⟨hG3, hT3⟩ := HGE.out.setAny HLB.out
     have HG3 : Hid (AllI b s L w0 (k + 1) (wr.setCell ⟨L.ab, 0, none⟩ (.bool true))) := hG3.congr (fun _ _ => rfl) (fun _ _ => rfl) rfl (by simp)
     have HT3 := Lib.hid (((Touch.of_ext HX0.out).trans hT.out).trans hT3)
     clear hG3 hT3 hG hT
     go_wp2
     go_end0
     exact ⟨rfl, HT3.out, HG3.out⟩
end Go.Proofs.YtiodjapdiflphaaGreatDoor

/- The reference's add, Truths. -/
namespace Go.Proofs.YtiodjapdiflphaaGreatDoor
open Go.RowKit
/-- What add does with f shells left. -/
def AddCall (b : Book) (s : Sack) (L : Lay) (w0 : World) (bv sv : Value) (f : Nat) : Prop :=
 ∀ (x : State) (k : Nat) (nv wv : Value) (A : World), x.org.length + f = s.shells.length → StateB b x → OrgsIn b x.org → (∀ (j : Nat) (z : State), (truthsFrom b s f x)[j]? = some z → (truthsOf b s)[k + j]? = some z) → AllI b s L w0 k A → PairsOff L.M A nv x.org → SpansOff L.M A wv x.wea →
  Calls Tryz.prog 43 #[.pointer (some ⟨L.ab, 0, none⟩), bv, sv, nv, wv] A (AddPost b s L w0 A (k + (truthsFrom b s f x).length))
theorem nar_mono_yes {off : Int} {rings : List Int} {p : Nat} {rows : List (List (Int × Int))} {r : Nat} {M : Nat → Prop} {w : World} {row : List (Int × Int)} (h : narrowL off rings p (rows.getD r []) = some row) {e : Ending} {w' : World} (hp : NarPost off rings p rows r M w e w') :
  ∃ oa oc, e = .returned (.tuple #[.slice oa rows.length oc, .bool true]) ∧ Ext w w' ∧ SpansOff M w' (.slice oa rows.length oc) (rows.set r row) := by
 obtain ⟨h1, h2⟩ := hp
 rw [h] at h2
 obtain ⟨oa, oc, h3, h4⟩ := h2
 exact ⟨oa, oc, h3, h1, h4⟩
theorem nar_mono_no {off : Int} {rings : List Int} {p : Nat} {rows : List (List (Int × Int))} {r : Nat} {M : Nat → Prop} {w : World} (h : narrowL off rings p (rows.getD r []) = none) {e : Ending} {w' : World} (hp : NarPost off rings p rows r M w e w') :
  e = .returned (.tuple #[.slice none 0 0, .bool false]) ∧ Ext w w' := by
 obtain ⟨h1, h2⟩ := hp
 rw [h] at h2
 exact ⟨h2, h1⟩
set_option maxRecDepth 100000 in
set_option maxHeartbeats 16000000 in
theorem radd_node (b : Book) (s : Sack) (L : Lay) (w0 : World) (bv sv : Value) (f : Nat) (hB : BookB b) (hS : SackB s) (hb : BookAt w0 bv b) (hs : SackAt w0 sv s) (hL : LayB L w0.heap.size) (IH : AddCall b s L w0 bv sv f) : AddCall b s L w0 bv sv (f + 1) := by
 intro x k nv wv A hxf hx hxo hti hI hn hw
 have hm : x.org.length < s.shells.length := by omega
 obtain ⟨m, hmm⟩ : ∃ m, x.org.length = m := ⟨_, rfl⟩
 have HBK := Lib.hid (fun W (h : Ext w0 W) => hb.ext h)
 have HSK := Lib.hid (fun W (h : Ext w0 W) => hs.ext h)
 have HSH : Hid (∃ sh, s.shells[m]? = some sh ∧ shellAt s m = sh ∧ ShellB sh) := by
  rw [hmm] at hm
  exact ⟨s.shells[m], List.getElem?_eq_getElem hm, by unfold shellAt; rw [List.getD_eq_getElem?_getD, List.getElem?_eq_getElem hm]; rfl, hS.shell _ (List.getElem_mem hm)⟩
 obtain ⟨sh, hsh1, hsh2, hsh3⟩ := HSH.out
 obtain ⟨ra, rc, rfl, _⟩ := hb.slice
 obtain ⟨sa, sc, ta, tc, rfl, hss, _⟩ := hs.slice
 obtain ⟨_, _, hsv, _, _, ss3⟩ := hss.open
 cases hsv
 obtain ⟨sb, so, gv, sh', rfl, hsh', k0, k1, hgi⟩ := ss3 m (by omega)
 have he : sh' = sh := by have := hsh'.out; rw [hsh1] at this; exact (Option.some.inj this).symm
 subst he
 obtain ⟨ga, gc, rfl, _⟩ := hgi.open
 have hn1 := hsh3.n1
 have hn2 := hsh3.n2
 have hMlt := hI.lt
 obtain ⟨na, nc, hnv, n1, n2, _⟩ := hn.1.open
 obtain ⟨wa, wk, hwv, w1, w2, _⟩ := SpansOff.open hw
 have hshv : ShellAt w0 (.agg #[.slice ga sh'.rings.length gc, .int .i64 sh'.off]) sh' := ⟨_, rfl, hgi⟩
 obtain ⟨W0, hW0⟩ : ∃ W0, W0 = (A.alloc (.cells #[.int .i64 b.years, .slice ra b.rivers.length rc] 24)).alloc (.cells #[.slice (some ⟨sb, so, none⟩) s.shells.length sc, .slice ta s.tests.length tc] 28) := ⟨_, rfl⟩
 have hx0 : Ext A W0 := by rw [hW0]; exact ((Ext.refl A).alloc _).alloc _
 have hA0 : Ext w0 A := hI.ext
 have hb0 : W0.heap[A.heap.size]? = some (.cells #[.int .i64 b.years, .slice ra b.rivers.length rc] 24 (0, 0)) := by
  rw [hW0]
  exact (((Ext.refl _).alloc _).block (b := A.heap.size) (by simp)).trans (World.alloc_heap_new A _)
 have hb1 : W0.heap[A.heap.size + 1]? = some (.cells #[.slice (some ⟨sb, so, none⟩) s.shells.length sc, .slice ta s.tests.length tc] 28 (0, 0)) := by
  rw [hW0]
  have h := World.alloc_heap_new (A.alloc (.cells #[.int .i64 b.years, .slice ra b.rivers.length rc] 24)) (.cells #[.slice (some ⟨sb, so, none⟩) s.shells.length sc, .slice ta s.tests.length tc] 28)
  rwa [World.size_alloc] at h
 have hz0 : W0.heap.size = A.heap.size + 2 := by rw [hW0]; simp
 have hnM : ¬ L.M A.heap.size := fun h => by have := hMlt _ h; omega
 have hnM1 : ¬ L.M (A.heap.size + 1) := fun h => by have := hMlt _ h; omega
 have HC := Lib.hid (fun W (h : Touch L.M W0 W) => (⟨(blkCell (h.keep _ _ hb0 hnM) (i := 0) rfl).1, (blkCell (h.keep _ _ hb0 hnM) (i := 1) rfl).1, (blkCell (h.keep _ _ hb1 hnM1) (i := 0) rfl).1, (blkCell (h.keep _ _ hb1 hnM1) (i := 1) rfl).1⟩ : W.cell? ⟨A.heap.size, 0, none⟩ = some (.int .i64 b.years) ∧ W.cell? ⟨A.heap.size, 1, none⟩ = some (.slice ra b.rivers.length rc) ∧ W.cell? ⟨A.heap.size + 1, 0, none⟩ = some (.slice (some ⟨sb, so, none⟩) s.shells.length sc) ∧ W.cell? ⟨A.heap.size + 1, 1, none⟩ = some (.slice ta s.tests.length tc)))
 have HK := Lib.hid (fun W (h : Ext w0 W) => (⟨h.cell k0, h.cell k1⟩ : W.cell? ⟨sb, so + m * 2, none⟩ = some (.slice ga sh'.rings.length gc) ∧ W.cell? ⟨sb, so + m * 2 + 1, none⟩ = some (.int .i64 sh'.off)))
 have HSHV := Lib.hid (fun W (h : Ext w0 W) => hshv.ext h)
 have HN := Lib.hid (fun W (h : Touch L.M W0 W) => (hn.ext hx0).touch h)
 have HW := Lib.hid (fun W (h : Touch L.M W0 W) => (hw.ext hx0).touch h)
 have HI0 := Lib.hid (AllG.ext' hI hx0)
 have HX0 := Lib.hid hx0
 have HA0 := Lib.hid hA0
 have HML := Lib.hid hMlt
 have HLB := Lib.hid hL
 have HXO := Lib.hid hxo
 have HST := Lib.hid hx
 have HTI := Lib.hid hti
 have HIH := Lib.hid IH
 have HXF := Lib.hid hxf
 have HZ0 := Lib.hid hz0
 have HOR := Lib.hid (fun W (h : Ext w0 W) => rorigins_new _ b sh'.rings.length W (HBK.out W h) hB hn1 (by omega))
 have HORG : Hid (orgsAt b s x = originsOf b sh'.rings.length) := by unfold Hid orgsAt; rw [hmm, hsh2]
 have HMM := Lib.hid hmm
 have t0 : decide ((m : Int) < (s.shells.length : Int)) = true := by simp; omega
 have t0' : decide (m < s.shells.length) = true := by simp; omega
 have t1 : (m : Int) < (s.shells.length : Int) := by omega
 have t2 : (0 : Int) ≤ (m : Int) := by omega
 rw [hmm] at hnv
 have HB := Lib.hid hB
 have HS2 := Lib.hid hS
 have HSH1 := Lib.hid (And.intro hsh1 (And.intro hsh2 hsh3))
 subst hnv hwv
 clear hb hs hL hx hxo hti hI hn hw hss ss3 k0 k1 hgi hshv hb0 hb1 hz0 hnM hnM1 hMlt hA0 IH hxf hmm hsh1 hsh2 hsh3 hsh' hm HSH
 go_enter Tryz.func43, Tryz.ntmps43
 go_upto_region 3 with fail
 rw [← hW0]
 clear hW0 hx0
 have HS3 := Lib.hid (fun W (h : Ext W0 W) => (⟨(HC.out W (Touch.of_ext h)).1, (HC.out W (Touch.of_ext h)).2.1, (HC.out W (Touch.of_ext h)).2.2.1, (HK.out W ((HA0.out.trans HX0.out).trans h)).1⟩ : W.cell? ⟨A.heap.size, 0, none⟩ = some (.int .i64 b.years) ∧ W.cell? ⟨A.heap.size, 1, none⟩ = some (.slice ra b.rivers.length rc) ∧ W.cell? ⟨A.heap.size + 1, 0, none⟩ = some (.slice (some ⟨sb, so, none⟩) s.shells.length sc) ∧ W.cell? ⟨sb, so + m * 2, none⟩ = some (.slice ga sh'.rings.length gc)))
 refine wp_region_held_drew (S := (fun W => W.cell? ⟨A.heap.size, 0, none⟩ = some (.int .i64 b.years) ∧ W.cell? ⟨A.heap.size, 1, none⟩ = some (.slice ra b.rivers.length rc) ∧ W.cell? ⟨A.heap.size + 1, 0, none⟩ = some (.slice (some ⟨sb, so, none⟩) s.shells.length sc) ∧ W.cell? ⟨sb, so + m * 2, none⟩ = some (.slice ga sh'.rings.length gc))) (by kernel_rfl) ?_ (fun hHeld => ?_)
 ·exact HS3.out _ (Ext.refl W0).drew
 refine hTk (i := 0) (d := some 27) (v := ?_) (fun o ho => ?_) hHeld ?_
 rotate_left
 ·simp only [zA, zB, zD] at ho
  subst ho
  refine ⟨by rfl, fun w hSw => ?_⟩
  (try dsimp only at hSw)
  go_simp
  try with_reducible rfl
 try simp only [Act.put, yA, yB, yC]
 refine hTk (i := 1) (d := some 28) (v := ?_) (fun o ho => ?_) hHeld ?_
 rotate_left
 ·simp only [zA, zB, zC, zD] at ho
  subst ho
  refine ⟨by rfl, fun w hSw => ?_⟩
  (try dsimp only at hSw)
  go_simp
  try with_reducible rfl
 try simp only [Act.put, yA, yB, yC]
 refine hTk (i := 2) (d := some 29) (v := ?_) (fun o ho => ?_) hHeld ?_
 rotate_left
 ·simp only [zA, zB, zC, zD] at ho
  subst ho
  refine ⟨by rfl, fun w hSw => ?_⟩
  (try dsimp only at hSw)
  go_simp
  try with_reducible rfl
 try simp only [Act.put, yA, yB, yC]
 refine hTk (i := 3) (d := some 30) (v := ?_) (fun o ho => ?_) hHeld ?_
 rotate_left
 ·simp only [zA, zB, zC, zD] at ho
  subst ho
  refine ⟨by rfl, fun w hSw => ?_⟩
  (try dsimp only at hSw)
  go_simp
  try with_reducible rfl
 try simp only [Act.put, yA, yB, yC]
 refine hTk (i := 4) (d := some 31) (v := ?_) (fun o ho => ?_) hHeld ?_
 rotate_left
 ·simp only [zA, zB, zC, zD] at ho
  subst ho
  refine ⟨by rfl, fun w hSw => ?_⟩
  (try dsimp only at hSw)
  go_simp
  try with_reducible rfl
 try simp only [Act.put, yA, yB, yC]
 refine hTk (i := 5) (d := some 32) (v := ?_) (fun o ho => ?_) hHeld ?_
 rotate_left
 ·simp only [zA, zB, zC, zD] at ho
  subst ho
  refine ⟨by rfl, fun w hSw => ?_⟩
  (try dsimp only at hSw)
  go_simp
  try with_reducible rfl
 try simp only [Act.put, yA, yB, yC]
 refine hTk (i := 6) (d := some 33) (v := ?_) (fun o ho => ?_) hHeld ?_
 rotate_left
 ·simp only [zA, zB, zC, zD] at ho
  subst ho
  refine ⟨by rfl, fun w hSw => ?_⟩
  (try dsimp only at hSw)
  go_simp
  try with_reducible rfl
 try simp only [Act.put, yA, yB, yC]
 refine hTk (i := 7) (d := some 34) (v := ?_) (fun o ho => ?_) hHeld ?_
 rotate_left
 ·simp only [zA, zB, zC, zD] at ho
  subst ho
  refine ⟨by rfl, fun w hSw => ?_⟩
  (try dsimp only at hSw)
  go_simp
  try with_reducible rfl
 try simp only [Act.put, yA, yB, yC]
 refine wpAnyH_ready (rs := [8]) (by kernel_rfl) (by simp) ?_
 refine held_step (i := 8) (by kernel_rfl) (fun o ho K' hK => ?_) ?_
 ·simp only [zA, zB, zC, zD] at ho
  subst ho
  go_simp
  go_at_call 76
  refine (HOR.out _ ((HA0.out.trans HX0.out).trans (Ext.refl W0).drew)).mono ?_
  rintro e w2 ⟨uv, rfl, hup, hx2, huo⟩
  have hxe : Ext W0 w2 := (Ext.refl W0).drew.trans hx2
  obtain ⟨ua, uc, rfl, u1, u2, _⟩ := hup.open
  have HUP := Lib.hid hup
  have HUO := Lib.hid huo
  clear hup huo hx2
  try go_simp
  refine hK.out _ _ ?_ (fun hHeld => ?_)
  ·exact HS3.out _ (by repeat (first | exact hxe | exact Ext.refl _ | apply Ext.drew | apply Ext.alloc))
  clear hK K'
  try simp only [yA, yB, yC]
  refine wpAnyH_ready (rs := [9]) (by kernel_rfl) (by simp) ?_
  refine held_step (i := 9) (by kernel_rfl) (fun o ho K' hK => ?_) ?_
  ·simp only [zA, zB, zC, zD] at ho
   subst ho
   go_simp
   refine hK.out _ _ ?_ (fun hHeld => ?_)
   ·exact HS3.out _ (by repeat (first | exact hxe | exact Ext.refl _ | apply Ext.drew | apply Ext.alloc))
   clear hK K'
   try simp only [yA, yB, yC]
   refine wpAnyH_done (by kernel_rfl) ?_ _
   try simp only [yA, yB, yC]
   clear hHeld
   have HXW2 := Lib.hid hxe
   have HOF := Lib.hid (HUO.out L.M (fun i hi => by have h1 := HML.out i hi; have h2 := HZ0.out; show i < W0.heap.size; omega))
   obtain ⟨OL, hOL⟩ : ∃ OL, originsOf b sh'.rings.length = OL := ⟨_, rfl⟩
   have HOLM := Lib.hid (fun o (h : o ∈ originsOf b sh'.rings.length) => originsOf_mem HB.out hn1 h)
   rw [hOL] at HUP HOF HORG HOLM u1 ⊢
   clear hHeld hxe HUO hOL HOR
   go_wp2
   go_loopw [12] (fun i wr => ∃ q : Nat, q ≤ OL.length ∧ i = .int .i64 (q : Int) ∧ Hid (AllI b s L w0 (k + truCnt b s f x q) wr) ∧ Hid (Touch L.M w2 wr)) (fun i _ => OL.length - (intOf i).toNat)
   case atStart => exact ⟨0, Nat.zero_le _, rfl, AllG.ext' HI0.out HXW2.out, Touch.refl _ _⟩
   case round =>
    obtain ⟨q, hq, rfl, hG, hT⟩ := hrel
    have HTW := Lib.hid ((Touch.of_ext HXW2.out).trans hT.out)
    by_cases hlt : q < OL.length
    ·have x1 : decide ((q : Int) < (OL.length : Int)) = true := by simpa using hlt
     have x2 : (q : Int) < (OL.length : Int) := by omega
     have x3 : (0 : Int) ≤ (q : Int) := by omega
     have HUR := Lib.hid (RowAt.touch HUP.out hT.out HOF.out)
     obtain ⟨_, _, huv, _, _, u3⟩ := PairsAt.open HUR.out
     cases huv
     obtain ⟨ub, uo, o, rfl, ho, d0, d1⟩ := u3 q hlt
     obtain ⟨r, y, rfl, hr, hy, hy2⟩ := HOLM.out o (List.mem_of_getElem? ho.out)
     simp only at d0 d1
     have hubM := HOF.out _ _ _ rfl
     have HUB := Lib.hid hubM
     obtain ⟨R, hR⟩ : ∃ R, Hid (b.rivers[r]? = some R) := ⟨_, List.getElem?_eq_getElem hr⟩
     have HGX := Lib.hid hG.out.ext
     have HS7 := Lib.hid (fun W (h : Ext wr W) => (⟨h.cell (HC.out wr HTW.out).1, h.cell (HC.out wr HTW.out).2.1, h.cell (HC.out wr HTW.out).2.2.1, (HK.out W (HGX.out.trans h)).1, (HK.out W (HGX.out.trans h)).2, h.cell d0, h.cell d1⟩ : W.cell? ⟨A.heap.size, 0, none⟩ = some (.int .i64 b.years) ∧ W.cell? ⟨A.heap.size, 1, none⟩ = some (.slice ra b.rivers.length rc) ∧ W.cell? ⟨A.heap.size + 1, 0, none⟩ = some (.slice (some ⟨sb, so, none⟩) s.shells.length sc) ∧ W.cell? ⟨sb, so + m * 2, none⟩ = some (.slice ga sh'.rings.length gc) ∧ W.cell? ⟨sb, so + m * 2 + 1, none⟩ = some (.int .i64 sh'.off) ∧ W.cell? ⟨ub, uo + q * 2, none⟩ = some (.int .i64 (r : Int)) ∧ W.cell? ⟨ub, uo + q * 2 + 1, none⟩ = some (.int .i64 (y : Int))))
     have HNC := Lib.hid (fun W (h : Ext wr W) => rnarrow_any _ _ _ b x.wea sh' r y R L.M W (HBK.out W (HGX.out.trans h)) HB.out ((HW.out wr HTW.out).ext h) HST.out.len HST.out.row (HSHV.out W (HGX.out.trans h)) HSH1.out.2.2 hR.out hy hy2 (fun i hi => Nat.lt_of_lt_of_le (hG.out.lt i hi) h.size))
     have HT8 := Lib.hid (fun W (h : Ext wr W) => rtold_any _ _ b s m r y W (HBK.out W (HGX.out.trans h)) HB.out (HSK.out W (HGX.out.trans h)) hr hy)
     have hwi : withB b x sh' ((r : Int), (y : Int)) = (narrowL (R.vary + sh'.off) sh'.rings (y + 1 - sh'.rings.length) (x.wea.getD r [])).map fun row => ⟨x.org ++ [((r : Int), (y : Int))], x.wea.set r row⟩ := by
      unfold withB firstY riverOf
      simp only [Int.toNat_natCast]
      rw [List.getD_eq_getElem?_getD, hR.out]; rfl
     have hnx : nextsOf b s x ((r : Int), (y : Int)) = if testedB b s.tests m ((r : Int), (y : Int)) then withB b x sh' ((r : Int), (y : Int)) else none := by
      unfold nextsOf
      have h := HSH1.out.2.1
      unfold shellAt at h
      rw [HMM.out, h]
     have hoq : (orgsAt b s x)[q]? = some ((r : Int), (y : Int)) := by rw [HORG.out]; exact ho.out
     have htc := truCnt_succ (f := f) hoq
     have HTS := Lib.hid (tru_split (f := f) hoq)
     have HHR := Lib.hid (And.intro hr hy)
     clear hoq hr hy hy2 d0 d1 u3 hubM
     cases hnl : narrowL (R.vary + sh'.off) sh'.rings (y + 1 - sh'.rings.length) (x.wea.getD r []) with
     | none =>
      rw [hnl, Option.map_none] at hwi
      rw [hwi, ite_self] at hnx
      rw [truAt_no hnx, List.length_nil, Nat.add_zero] at htc
      have HTC := Lib.hid htc
      have HNW := Lib.hid (fun W (h : Ext wr W) => (HNC.out W h).mono fun e w' hp => nar_mono_no hnl hp)
      clear hnl hwi hnx htc
      go_upto_region 7 with fail
      refine wp_region_held_drew (S := (fun W => W.cell? ⟨A.heap.size, 0, none⟩ = some (.int .i64 b.years) ∧ W.cell? ⟨A.heap.size, 1, none⟩ = some (.slice ra b.rivers.length rc) ∧ W.cell? ⟨A.heap.size + 1, 0, none⟩ = some (.slice (some ⟨sb, so, none⟩) s.shells.length sc) ∧ W.cell? ⟨sb, so + m * 2, none⟩ = some (.slice ga sh'.rings.length gc) ∧ W.cell? ⟨sb, so + m * 2 + 1, none⟩ = some (.int .i64 sh'.off) ∧ W.cell? ⟨ub, uo + q * 2, none⟩ = some (.int .i64 (r : Int)) ∧ W.cell? ⟨ub, uo + q * 2 + 1, none⟩ = some (.int .i64 (y : Int)))) (by kernel_rfl) ?_ (fun hHeld => ?_)
      ·exact HS7.out _ (Ext.refl wr).drew
      refine hTk (i := 0) (d := some 43) (v := ?_) (fun o ho => ?_) hHeld ?_
      rotate_left
      ·simp only [zA, zB, zD] at ho
       subst ho
       refine ⟨by rfl, fun w hSw => ?_⟩
       (try dsimp only at hSw)
       go_simp
       try with_reducible rfl
      try simp only [Act.put, yA, yB, yC]
      refine hTk (i := 1) (d := some 44) (v := ?_) (fun o ho => ?_) hHeld ?_
      rotate_left
      ·simp only [zA, zB, zC, zD] at ho
       subst ho
       refine ⟨by rfl, fun w hSw => ?_⟩
       (try dsimp only at hSw)
       go_simp
       try with_reducible rfl
      try simp only [Act.put, yA, yB, yC]
      refine hTk (i := 2) (d := some 45) (v := ?_) (fun o ho => ?_) hHeld ?_
      rotate_left
      ·simp only [zA, zB, zC, zD] at ho
       subst ho
       refine ⟨by rfl, fun w hSw => ?_⟩
       (try dsimp only at hSw)
       go_simp
       try with_reducible rfl
      try simp only [Act.put, yA, yB, yC]
      refine hTk (i := 3) (d := some 46) (v := ?_) (fun o ho => ?_) hHeld ?_
      rotate_left
      ·simp only [zA, zB, zC, zD] at ho
       subst ho
       refine ⟨by rfl, fun w hSw => ?_⟩
       (try dsimp only at hSw)
       go_simp
       try with_reducible rfl
      try simp only [Act.put, yA, yB, yC]
      refine hTk (i := 4) (d := some 47) (v := ?_) (fun o ho => ?_) hHeld ?_
      rotate_left
      ·simp only [zA, zB, zC, zD] at ho
       subst ho
       refine ⟨by rfl, fun w hSw => ?_⟩
       (try dsimp only at hSw)
       go_simp
       try with_reducible rfl
      try simp only [Act.put, yA, yB, yC]
      refine hTk (i := 5) (d := some 48) (v := ?_) (fun o ho => ?_) hHeld ?_
      rotate_left
      ·simp only [zA, zB, zC, zD] at ho
       subst ho
       refine ⟨by rfl, fun w hSw => ?_⟩
       (try dsimp only at hSw)
       go_simp
       try with_reducible rfl
      try simp only [Act.put, yA, yB, yC]
      refine hTk (i := 6) (d := some 49) (v := ?_) (fun o ho => ?_) hHeld ?_
      rotate_left
      ·simp only [zA, zB, zC, zD] at ho
       subst ho
       refine ⟨by rfl, fun w hSw => ?_⟩
       (try dsimp only at hSw)
       go_simp
       try with_reducible rfl
      try simp only [Act.put, yA, yB, yC]
      refine hTk (i := 7) (d := some 50) (v := ?_) (fun o ho => ?_) hHeld ?_
      rotate_left
      ·simp only [zA, zB, zC, zD] at ho
       subst ho
       refine ⟨by rfl, fun w hSw => ?_⟩
       (try dsimp only at hSw)
       go_simp
       try with_reducible rfl
      try simp only [Act.put, yA, yB, yC]
      refine hTk (i := 8) (d := some 51) (v := ?_) (fun o ho => ?_) hHeld ?_
      rotate_left
      ·simp only [zA, zB, zC, zD] at ho
       subst ho
       refine ⟨by rfl, fun w hSw => ?_⟩
       (try dsimp only at hSw)
       go_simp
       try with_reducible rfl
      try simp only [Act.put, yA, yB, yC]
      refine hTk (i := 9) (d := some 52) (v := ?_) (fun o ho => ?_) hHeld ?_
      rotate_left
      ·simp only [zA, zB, zC, zD] at ho
       subst ho
       refine ⟨by rfl, fun w hSw => ?_⟩
       (try dsimp only at hSw)
       go_simp
       try with_reducible rfl
      try simp only [Act.put, yA, yB, yC]
      refine hTk (i := 10) (d := some 53) (v := ?_) (fun o ho => ?_) hHeld ?_
      rotate_left
      ·simp only [zA, zB, zC, zD] at ho
       subst ho
       refine ⟨by rfl, fun w hSw => ?_⟩
       (try dsimp only at hSw)
       go_simp
       try with_reducible rfl
      try simp only [Act.put, yA, yB, yC]
      refine wpAnyH_ready (rs := [11]) (by kernel_rfl) (by simp) ?_
      refine held_step (i := 11) (by kernel_rfl) (fun o ho K' hK => ?_) ?_
      ·simp only [zA, zB, zC, zD] at ho
       subst ho
       go_simp
       go_at_call 77
       refine (HNW.out _ (Ext.refl wr).drew).mono ?_
       rintro e w3 ⟨rfl, hx3⟩
       have hxe : Ext wr w3 := (Ext.refl wr).drew.trans hx3
       clear hx3
       try go_simp
       refine hK.out _ _ ?_ (fun hHeld => ?_)
       ·exact HS7.out _ (by repeat (first | exact hxe | exact Ext.refl _ | apply Ext.drew | apply Ext.alloc))
       clear hK K'
       try simp only [yA, yB, yC]
       refine hTk (i := 12) (d := some 42) (v := ?_) (fun o ho => ?_) hHeld ?_
       rotate_left
       ·simp only [zA, zB, zC, zD] at ho
        subst ho
        refine ⟨by rfl, fun w hSw => ?_⟩
        (try dsimp only at hSw)
        go_simp
        try with_reducible rfl
       try simp only [Act.put, yA, yB, yC]
       refine hTk (i := 13) (d := some 55) (v := ?_) (fun o ho => ?_) hHeld ?_
       rotate_left
       ·simp only [zA, zB, zC, zD] at ho
        subst ho
        refine ⟨by rfl, fun w hSw => ?_⟩
        (try dsimp only at hSw)
        go_simp
        try with_reducible rfl
       try simp only [Act.put, yA, yB, yC]
       refine hTk (i := 14) (d := some 56) (v := ?_) (fun o ho => ?_) hHeld ?_
       rotate_left
       ·simp only [zA, zB, zC, zD] at ho
        subst ho
        refine ⟨by rfl, fun w hSw => ?_⟩
        (try dsimp only at hSw)
        go_simp
        try with_reducible rfl
       try simp only [Act.put, yA, yB, yC]
       refine wpAnyH_ready (rs := [15]) (by kernel_rfl) (by simp) ?_
       refine held_step (i := 15) (by kernel_rfl) (fun o ho K' hK => ?_) ?_
       ·simp only [zA, zB, zC, zD] at ho
        subst ho
        go_simp
        refine hK.out _ _ ?_ (fun hHeld => ?_)
        ·exact HS7.out _ (by repeat (first | exact hxe | exact Ext.refl _ | apply Ext.drew | apply Ext.alloc))
        clear hK K'
        try simp only [yA, yB, yC]
        refine wpAnyH_ready (rs := [16]) (by kernel_rfl) (by simp) ?_
        refine held_step (i := 16) (by kernel_rfl) (fun o ho K' hK => ?_) ?_
        ·simp only [zA, zB, zC, zD] at ho
         subst ho
         go_simp
         refine hK.out _ _ ?_ (fun hHeld => ?_)
         ·exact HS7.out _ (by repeat (first | exact hxe | exact Ext.refl _ | apply Ext.drew | apply Ext.alloc))
         clear hK K'
         try simp only [yA, yB, yC]
         refine wpAnyH_done (by kernel_rfl) ?_ _
         try simp only [yA, yB, yC]
         clear hHeld
         have HX3 := Lib.hid hxe
         have HF8 := Lib.hid (fun W (h : Ext w3 W) => (⟨(HS7.out W (HX3.out.trans h)).1, (HS7.out W (HX3.out.trans h)).2.1, (HS7.out W (HX3.out.trans h)).2.2.1, (HX3.out.trans h).cell (HC.out wr HTW.out).2.2.2, (HS7.out W (HX3.out.trans h)).2.2.2.2.2.1, (HS7.out W (HX3.out.trans h)).2.2.2.2.2.2⟩ : W.cell? ⟨A.heap.size, 0, none⟩ = some (.int .i64 b.years) ∧ W.cell? ⟨A.heap.size, 1, none⟩ = some (.slice ra b.rivers.length rc) ∧ W.cell? ⟨A.heap.size + 1, 0, none⟩ = some (.slice (some ⟨sb, so, none⟩) s.shells.length sc) ∧ W.cell? ⟨A.heap.size + 1, 1, none⟩ = some (.slice ta s.tests.length tc) ∧ W.cell? ⟨ub, uo + q * 2, none⟩ = some (.int .i64 (r : Int)) ∧ W.cell? ⟨ub, uo + q * 2 + 1, none⟩ = some (.int .i64 (y : Int))))
         have HTD := Lib.hid (fun W (h : Ext w3 W) => HT8.out W (HX3.out.trans h))
         clear hxe
         go_upto_region 8 with fail
         refine region_reads (C := fun W => Ext w3 W) (by kernel_rfl) (by kernel_rfl) ((Ext.refl w3).drew) ?_
         repeat (first | go_big_quiet_skip | (go_big_quiet_want; go_big_quiet_op; first | go_big_quiet_on | (refine ⟨_, fun W hW => rfl, ?_⟩; go_big_quiet_on)) | (go_big_quiet_want; refine ⟨?_, fun W hW => ?_, ?_⟩; rotate_left; (· (obtain ⟨p0, p1, p2, p3, p4, p5⟩ := HF8.out W hW); go_simp; (first | with_reducible rfl | (go_at_call 78; refine (HTD.out W hW).mono ?_; rintro e w' ⟨rfl, hx1⟩; constructor; with_reducible rfl; exact hW.trans hx1))); (try simp only [Act.put, yA, yB, yC]); go_big_quiet_on))
         refine wpQuiet_nil ?_
         intro wq hq
         go_wp2
         refine ⟨⟨q + 1, by omega, by go_num, ?_, hT.out.trans (Touch.of_ext (HX3.out.trans hq))⟩, by simp [intOf]; omega⟩
         rw [Hid, HTC.out]
         exact AllG.ext' hG.out (HX3.out.trans hq)
        exact AllReadyH.nil
       exact AllReadyH.nil
      exact AllReadyH.nil
     | some row =>
      rw [hnl, Option.map_some] at hwi
      have HNW := Lib.hid (fun W (h : Ext wr W) => (HNC.out W h).mono fun e w' hp => nar_mono_yes hnl hp)
      clear hnl
      cases htb : testedB b s.tests m ((r : Int), (y : Int)) with
      | false =>
       rw [htb] at hnx HT8
       rw [if_neg (by simp)] at hnx
       rw [truAt_no hnx, List.length_nil, Nat.add_zero] at htc
       have HTC := Lib.hid htc
       clear hwi hnx htc htb
       go_upto_region 7 with fail
       refine wp_region_held_drew (S := (fun W => W.cell? ⟨A.heap.size, 0, none⟩ = some (.int .i64 b.years) ∧ W.cell? ⟨A.heap.size, 1, none⟩ = some (.slice ra b.rivers.length rc) ∧ W.cell? ⟨A.heap.size + 1, 0, none⟩ = some (.slice (some ⟨sb, so, none⟩) s.shells.length sc) ∧ W.cell? ⟨sb, so + m * 2, none⟩ = some (.slice ga sh'.rings.length gc) ∧ W.cell? ⟨sb, so + m * 2 + 1, none⟩ = some (.int .i64 sh'.off) ∧ W.cell? ⟨ub, uo + q * 2, none⟩ = some (.int .i64 (r : Int)) ∧ W.cell? ⟨ub, uo + q * 2 + 1, none⟩ = some (.int .i64 (y : Int)))) (by kernel_rfl) ?_ (fun hHeld => ?_)
       ·exact HS7.out _ (Ext.refl wr).drew
       refine hTk (i := 0) (d := some 43) (v := ?_) (fun o ho => ?_) hHeld ?_
       rotate_left
       ·simp only [zA, zB, zD] at ho
        subst ho
        refine ⟨by rfl, fun w hSw => ?_⟩
        (try dsimp only at hSw)
        go_simp
        try with_reducible rfl
       try simp only [Act.put, yA, yB, yC]
       refine hTk (i := 1) (d := some 44) (v := ?_) (fun o ho => ?_) hHeld ?_
       rotate_left
       ·simp only [zA, zB, zC, zD] at ho
        subst ho
        refine ⟨by rfl, fun w hSw => ?_⟩
        (try dsimp only at hSw)
        go_simp
        try with_reducible rfl
       try simp only [Act.put, yA, yB, yC]
       refine hTk (i := 2) (d := some 45) (v := ?_) (fun o ho => ?_) hHeld ?_
       rotate_left
       ·simp only [zA, zB, zC, zD] at ho
        subst ho
        refine ⟨by rfl, fun w hSw => ?_⟩
        (try dsimp only at hSw)
        go_simp
        try with_reducible rfl
       try simp only [Act.put, yA, yB, yC]
       refine hTk (i := 3) (d := some 46) (v := ?_) (fun o ho => ?_) hHeld ?_
       rotate_left
       ·simp only [zA, zB, zC, zD] at ho
        subst ho
        refine ⟨by rfl, fun w hSw => ?_⟩
        (try dsimp only at hSw)
        go_simp
        try with_reducible rfl
       try simp only [Act.put, yA, yB, yC]
       refine hTk (i := 4) (d := some 47) (v := ?_) (fun o ho => ?_) hHeld ?_
       rotate_left
       ·simp only [zA, zB, zC, zD] at ho
        subst ho
        refine ⟨by rfl, fun w hSw => ?_⟩
        (try dsimp only at hSw)
        go_simp
        try with_reducible rfl
       try simp only [Act.put, yA, yB, yC]
       refine hTk (i := 5) (d := some 48) (v := ?_) (fun o ho => ?_) hHeld ?_
       rotate_left
       ·simp only [zA, zB, zC, zD] at ho
        subst ho
        refine ⟨by rfl, fun w hSw => ?_⟩
        (try dsimp only at hSw)
        go_simp
        try with_reducible rfl
       try simp only [Act.put, yA, yB, yC]
       refine hTk (i := 6) (d := some 49) (v := ?_) (fun o ho => ?_) hHeld ?_
       rotate_left
       ·simp only [zA, zB, zC, zD] at ho
        subst ho
        refine ⟨by rfl, fun w hSw => ?_⟩
        (try dsimp only at hSw)
        go_simp
        try with_reducible rfl
       try simp only [Act.put, yA, yB, yC]
       refine hTk (i := 7) (d := some 50) (v := ?_) (fun o ho => ?_) hHeld ?_
       rotate_left
       ·simp only [zA, zB, zC, zD] at ho
        subst ho
        refine ⟨by rfl, fun w hSw => ?_⟩
        (try dsimp only at hSw)
        go_simp
        try with_reducible rfl
       try simp only [Act.put, yA, yB, yC]
       refine hTk (i := 8) (d := some 51) (v := ?_) (fun o ho => ?_) hHeld ?_
       rotate_left
       ·simp only [zA, zB, zC, zD] at ho
        subst ho
        refine ⟨by rfl, fun w hSw => ?_⟩
        (try dsimp only at hSw)
        go_simp
        try with_reducible rfl
       try simp only [Act.put, yA, yB, yC]
       refine hTk (i := 9) (d := some 52) (v := ?_) (fun o ho => ?_) hHeld ?_
       rotate_left
       ·simp only [zA, zB, zC, zD] at ho
        subst ho
        refine ⟨by rfl, fun w hSw => ?_⟩
        (try dsimp only at hSw)
        go_simp
        try with_reducible rfl
       try simp only [Act.put, yA, yB, yC]
       refine hTk (i := 10) (d := some 53) (v := ?_) (fun o ho => ?_) hHeld ?_
       rotate_left
       ·simp only [zA, zB, zC, zD] at ho
        subst ho
        refine ⟨by rfl, fun w hSw => ?_⟩
        (try dsimp only at hSw)
        go_simp
        try with_reducible rfl
       try simp only [Act.put, yA, yB, yC]
       refine wpAnyH_ready (rs := [11]) (by kernel_rfl) (by simp) ?_
       refine held_step (i := 11) (by kernel_rfl) (fun o ho K' hK => ?_) ?_
       ·simp only [zA, zB, zC, zD] at ho
        subst ho
        go_simp
        go_at_call 77
        refine (HNW.out _ (Ext.refl wr).drew).mono ?_
        rintro e w3 ⟨oa, oc, rfl, hx3, hnx⟩
        have HNX := Lib.hid hnx
        clear hnx
        have hxe : Ext wr w3 := (Ext.refl wr).drew.trans hx3
        clear hx3
        try go_simp
        refine hK.out _ _ ?_ (fun hHeld => ?_)
        ·exact HS7.out _ (by repeat (first | exact hxe | exact Ext.refl _ | apply Ext.drew | apply Ext.alloc))
        clear hK K'
        try simp only [yA, yB, yC]
        refine hTk (i := 12) (d := some 42) (v := ?_) (fun o ho => ?_) hHeld ?_
        rotate_left
        ·simp only [zA, zB, zC, zD] at ho
         subst ho
         refine ⟨by rfl, fun w hSw => ?_⟩
         (try dsimp only at hSw)
         go_simp
         try with_reducible rfl
        try simp only [Act.put, yA, yB, yC]
        refine hTk (i := 13) (d := some 55) (v := ?_) (fun o ho => ?_) hHeld ?_
        rotate_left
        ·simp only [zA, zB, zC, zD] at ho
         subst ho
         refine ⟨by rfl, fun w hSw => ?_⟩
         (try dsimp only at hSw)
         go_simp
         try with_reducible rfl
        try simp only [Act.put, yA, yB, yC]
        refine hTk (i := 14) (d := some 56) (v := ?_) (fun o ho => ?_) hHeld ?_
        rotate_left
        ·simp only [zA, zB, zC, zD] at ho
         subst ho
         refine ⟨by rfl, fun w hSw => ?_⟩
         (try dsimp only at hSw)
         go_simp
         try with_reducible rfl
        try simp only [Act.put, yA, yB, yC]
        refine wpAnyH_ready (rs := [15]) (by kernel_rfl) (by simp) ?_
        refine held_step (i := 15) (by kernel_rfl) (fun o ho K' hK => ?_) ?_
        ·simp only [zA, zB, zC, zD] at ho
         subst ho
         go_simp
         refine hK.out _ _ ?_ (fun hHeld => ?_)
         ·exact HS7.out _ (by repeat (first | exact hxe | exact Ext.refl _ | apply Ext.drew | apply Ext.alloc))
         clear hK K'
         try simp only [yA, yB, yC]
         refine wpAnyH_ready (rs := [16]) (by kernel_rfl) (by simp) ?_
         refine held_step (i := 16) (by kernel_rfl) (fun o ho K' hK => ?_) ?_
         ·simp only [zA, zB, zC, zD] at ho
          subst ho
          go_simp
          refine hK.out _ _ ?_ (fun hHeld => ?_)
          ·exact HS7.out _ (by repeat (first | exact hxe | exact Ext.refl _ | apply Ext.drew | apply Ext.alloc))
          clear hK K'
          try simp only [yA, yB, yC]
          refine wpAnyH_done (by kernel_rfl) ?_ _
          try simp only [yA, yB, yC]
          clear hHeld
          have HX3 := Lib.hid hxe
          have HF8 := Lib.hid (fun W (h : Ext w3 W) => (⟨(HS7.out W (HX3.out.trans h)).1, (HS7.out W (HX3.out.trans h)).2.1, (HS7.out W (HX3.out.trans h)).2.2.1, (HX3.out.trans h).cell (HC.out wr HTW.out).2.2.2, (HS7.out W (HX3.out.trans h)).2.2.2.2.2.1, (HS7.out W (HX3.out.trans h)).2.2.2.2.2.2⟩ : W.cell? ⟨A.heap.size, 0, none⟩ = some (.int .i64 b.years) ∧ W.cell? ⟨A.heap.size, 1, none⟩ = some (.slice ra b.rivers.length rc) ∧ W.cell? ⟨A.heap.size + 1, 0, none⟩ = some (.slice (some ⟨sb, so, none⟩) s.shells.length sc) ∧ W.cell? ⟨A.heap.size + 1, 1, none⟩ = some (.slice ta s.tests.length tc) ∧ W.cell? ⟨ub, uo + q * 2, none⟩ = some (.int .i64 (r : Int)) ∧ W.cell? ⟨ub, uo + q * 2 + 1, none⟩ = some (.int .i64 (y : Int))))
          have HTD := Lib.hid (fun W (h : Ext w3 W) => HT8.out W (HX3.out.trans h))
          clear hxe
          go_upto_region 8 with fail
          refine region_reads (C := fun W => Ext w3 W) (by kernel_rfl) (by kernel_rfl) ((Ext.refl w3).drew) ?_
          repeat (first | go_big_quiet_skip | (go_big_quiet_want; go_big_quiet_op; first | go_big_quiet_on | (refine ⟨_, fun W hW => rfl, ?_⟩; go_big_quiet_on)) | (go_big_quiet_want; refine ⟨?_, fun W hW => ?_, ?_⟩; rotate_left; (· (obtain ⟨p0, p1, p2, p3, p4, p5⟩ := HF8.out W hW); go_simp; (first | with_reducible rfl | (go_at_call 78; refine (HTD.out W hW).mono ?_; rintro e w' ⟨rfl, hx1⟩; constructor; with_reducible rfl; exact hW.trans hx1))); (try simp only [Act.put, yA, yB, yC]); go_big_quiet_on))
          refine wpQuiet_nil ?_
          intro wq hq
          go_wp2
          refine ⟨⟨q + 1, by omega, by go_num, ?_, hT.out.trans (Touch.of_ext (HX3.out.trans hq))⟩, by simp [intOf]; omega⟩
          rw [Hid, HTC.out]
          exact AllG.ext' hG.out (HX3.out.trans hq)
         exact AllReadyH.nil
        exact AllReadyH.nil
       exact AllReadyH.nil
      | true =>
       rw [htb] at hnx HT8
       rw [if_pos rfl, hwi] at hnx
       rw [truAt_yes hnx] at htc
       have HTC := Lib.hid htc
       have HNX2 := Lib.hid hnx
       clear hwi hnx htc htb
       go_upto_region 7 with fail
       refine wp_region_held_drew (S := (fun W => W.cell? ⟨A.heap.size, 0, none⟩ = some (.int .i64 b.years) ∧ W.cell? ⟨A.heap.size, 1, none⟩ = some (.slice ra b.rivers.length rc) ∧ W.cell? ⟨A.heap.size + 1, 0, none⟩ = some (.slice (some ⟨sb, so, none⟩) s.shells.length sc) ∧ W.cell? ⟨sb, so + m * 2, none⟩ = some (.slice ga sh'.rings.length gc) ∧ W.cell? ⟨sb, so + m * 2 + 1, none⟩ = some (.int .i64 sh'.off) ∧ W.cell? ⟨ub, uo + q * 2, none⟩ = some (.int .i64 (r : Int)) ∧ W.cell? ⟨ub, uo + q * 2 + 1, none⟩ = some (.int .i64 (y : Int)))) (by kernel_rfl) ?_ (fun hHeld => ?_)
       ·exact HS7.out _ (Ext.refl wr).drew
       refine hTk (i := 0) (d := some 43) (v := ?_) (fun o ho => ?_) hHeld ?_
       rotate_left
       ·simp only [zA, zB, zD] at ho
        subst ho
        refine ⟨by rfl, fun w hSw => ?_⟩
        (try dsimp only at hSw)
        go_simp
        try with_reducible rfl
       try simp only [Act.put, yA, yB, yC]
       refine hTk (i := 1) (d := some 44) (v := ?_) (fun o ho => ?_) hHeld ?_
       rotate_left
       ·simp only [zA, zB, zC, zD] at ho
        subst ho
        refine ⟨by rfl, fun w hSw => ?_⟩
        (try dsimp only at hSw)
        go_simp
        try with_reducible rfl
       try simp only [Act.put, yA, yB, yC]
       refine hTk (i := 2) (d := some 45) (v := ?_) (fun o ho => ?_) hHeld ?_
       rotate_left
       ·simp only [zA, zB, zC, zD] at ho
        subst ho
        refine ⟨by rfl, fun w hSw => ?_⟩
        (try dsimp only at hSw)
        go_simp
        try with_reducible rfl
       try simp only [Act.put, yA, yB, yC]
       refine hTk (i := 3) (d := some 46) (v := ?_) (fun o ho => ?_) hHeld ?_
       rotate_left
       ·simp only [zA, zB, zC, zD] at ho
        subst ho
        refine ⟨by rfl, fun w hSw => ?_⟩
        (try dsimp only at hSw)
        go_simp
        try with_reducible rfl
       try simp only [Act.put, yA, yB, yC]
       refine hTk (i := 4) (d := some 47) (v := ?_) (fun o ho => ?_) hHeld ?_
       rotate_left
       ·simp only [zA, zB, zC, zD] at ho
        subst ho
        refine ⟨by rfl, fun w hSw => ?_⟩
        (try dsimp only at hSw)
        go_simp
        try with_reducible rfl
       try simp only [Act.put, yA, yB, yC]
       refine hTk (i := 5) (d := some 48) (v := ?_) (fun o ho => ?_) hHeld ?_
       rotate_left
       ·simp only [zA, zB, zC, zD] at ho
        subst ho
        refine ⟨by rfl, fun w hSw => ?_⟩
        (try dsimp only at hSw)
        go_simp
        try with_reducible rfl
       try simp only [Act.put, yA, yB, yC]
       refine hTk (i := 6) (d := some 49) (v := ?_) (fun o ho => ?_) hHeld ?_
       rotate_left
       ·simp only [zA, zB, zC, zD] at ho
        subst ho
        refine ⟨by rfl, fun w hSw => ?_⟩
        (try dsimp only at hSw)
        go_simp
        try with_reducible rfl
       try simp only [Act.put, yA, yB, yC]
       refine hTk (i := 7) (d := some 50) (v := ?_) (fun o ho => ?_) hHeld ?_
       rotate_left
       ·simp only [zA, zB, zC, zD] at ho
        subst ho
        refine ⟨by rfl, fun w hSw => ?_⟩
        (try dsimp only at hSw)
        go_simp
        try with_reducible rfl
       try simp only [Act.put, yA, yB, yC]
       refine hTk (i := 8) (d := some 51) (v := ?_) (fun o ho => ?_) hHeld ?_
       rotate_left
       ·simp only [zA, zB, zC, zD] at ho
        subst ho
        refine ⟨by rfl, fun w hSw => ?_⟩
        (try dsimp only at hSw)
        go_simp
        try with_reducible rfl
       try simp only [Act.put, yA, yB, yC]
       refine hTk (i := 9) (d := some 52) (v := ?_) (fun o ho => ?_) hHeld ?_
       rotate_left
       ·simp only [zA, zB, zC, zD] at ho
        subst ho
        refine ⟨by rfl, fun w hSw => ?_⟩
        (try dsimp only at hSw)
        go_simp
        try with_reducible rfl
       try simp only [Act.put, yA, yB, yC]
       refine hTk (i := 10) (d := some 53) (v := ?_) (fun o ho => ?_) hHeld ?_
       rotate_left
       ·simp only [zA, zB, zC, zD] at ho
        subst ho
        refine ⟨by rfl, fun w hSw => ?_⟩
        (try dsimp only at hSw)
        go_simp
        try with_reducible rfl
       try simp only [Act.put, yA, yB, yC]
       refine wpAnyH_ready (rs := [11]) (by kernel_rfl) (by simp) ?_
       refine held_step (i := 11) (by kernel_rfl) (fun o ho K' hK => ?_) ?_
       ·simp only [zA, zB, zC, zD] at ho
        subst ho
        go_simp
        go_at_call 77
        refine (HNW.out _ (Ext.refl wr).drew).mono ?_
        rintro e w3 ⟨oa, oc, rfl, hx3, hnx⟩
        have HNX := Lib.hid hnx
        clear hnx
        have hxe : Ext wr w3 := (Ext.refl wr).drew.trans hx3
        clear hx3
        try go_simp
        refine hK.out _ _ ?_ (fun hHeld => ?_)
        ·exact HS7.out _ (by repeat (first | exact hxe | exact Ext.refl _ | apply Ext.drew | apply Ext.alloc))
        clear hK K'
        try simp only [yA, yB, yC]
        refine hTk (i := 12) (d := some 42) (v := ?_) (fun o ho => ?_) hHeld ?_
        rotate_left
        ·simp only [zA, zB, zC, zD] at ho
         subst ho
         refine ⟨by rfl, fun w hSw => ?_⟩
         (try dsimp only at hSw)
         go_simp
         try with_reducible rfl
        try simp only [Act.put, yA, yB, yC]
        refine hTk (i := 13) (d := some 55) (v := ?_) (fun o ho => ?_) hHeld ?_
        rotate_left
        ·simp only [zA, zB, zC, zD] at ho
         subst ho
         refine ⟨by rfl, fun w hSw => ?_⟩
         (try dsimp only at hSw)
         go_simp
         try with_reducible rfl
        try simp only [Act.put, yA, yB, yC]
        refine hTk (i := 14) (d := some 56) (v := ?_) (fun o ho => ?_) hHeld ?_
        rotate_left
        ·simp only [zA, zB, zC, zD] at ho
         subst ho
         refine ⟨by rfl, fun w hSw => ?_⟩
         (try dsimp only at hSw)
         go_simp
         try with_reducible rfl
        try simp only [Act.put, yA, yB, yC]
        refine wpAnyH_ready (rs := [15]) (by kernel_rfl) (by simp) ?_
        refine held_step (i := 15) (by kernel_rfl) (fun o ho K' hK => ?_) ?_
        ·simp only [zA, zB, zC, zD] at ho
         subst ho
         go_simp
         refine hK.out _ _ ?_ (fun hHeld => ?_)
         ·exact HS7.out _ (by repeat (first | exact hxe | exact Ext.refl _ | apply Ext.drew | apply Ext.alloc))
         clear hK K'
         try simp only [yA, yB, yC]
         refine wpAnyH_ready (rs := [16]) (by kernel_rfl) (by simp) ?_
         refine held_step (i := 16) (by kernel_rfl) (fun o ho K' hK => ?_) ?_
         ·simp only [zA, zB, zC, zD] at ho
          subst ho
          go_simp
          refine hK.out _ _ ?_ (fun hHeld => ?_)
          ·exact HS7.out _ (by repeat (first | exact hxe | exact Ext.refl _ | apply Ext.drew | apply Ext.alloc))
          clear hK K'
          try simp only [yA, yB, yC]
          refine wpAnyH_done (by kernel_rfl) ?_ _
          try simp only [yA, yB, yC]
          clear hHeld
          have HX3 := Lib.hid hxe
          have HF8 := Lib.hid (fun W (h : Ext w3 W) => (⟨(HS7.out W (HX3.out.trans h)).1, (HS7.out W (HX3.out.trans h)).2.1, (HS7.out W (HX3.out.trans h)).2.2.1, (HX3.out.trans h).cell (HC.out wr HTW.out).2.2.2, (HS7.out W (HX3.out.trans h)).2.2.2.2.2.1, (HS7.out W (HX3.out.trans h)).2.2.2.2.2.2⟩ : W.cell? ⟨A.heap.size, 0, none⟩ = some (.int .i64 b.years) ∧ W.cell? ⟨A.heap.size, 1, none⟩ = some (.slice ra b.rivers.length rc) ∧ W.cell? ⟨A.heap.size + 1, 0, none⟩ = some (.slice (some ⟨sb, so, none⟩) s.shells.length sc) ∧ W.cell? ⟨A.heap.size + 1, 1, none⟩ = some (.slice ta s.tests.length tc) ∧ W.cell? ⟨ub, uo + q * 2, none⟩ = some (.int .i64 (r : Int)) ∧ W.cell? ⟨ub, uo + q * 2 + 1, none⟩ = some (.int .i64 (y : Int))))
          have HTD := Lib.hid (fun W (h : Ext w3 W) => HT8.out W (HX3.out.trans h))
          clear hxe
          go_upto_region 8 with fail
          refine region_reads (C := fun W => Ext w3 W) (by kernel_rfl) (by kernel_rfl) ((Ext.refl w3).drew) ?_
          repeat (first | go_big_quiet_skip | (go_big_quiet_want; go_big_quiet_op; first | go_big_quiet_on | (refine ⟨_, fun W hW => rfl, ?_⟩; go_big_quiet_on)) | (go_big_quiet_want; refine ⟨?_, fun W hW => ?_, ?_⟩; rotate_left; (· (obtain ⟨p0, p1, p2, p3, p4, p5⟩ := HF8.out W hW); go_simp; (first | with_reducible rfl | (go_at_call 78; refine (HTD.out W hW).mono ?_; rintro e w' ⟨rfl, hx1⟩; constructor; with_reducible rfl; exact hW.trans hx1))); (try simp only [Act.put, yA, yB, yC]); go_big_quiet_on))
          refine wpQuiet_nil ?_
          intro wq hq
          have HXQ := Lib.hid (HX3.out.trans hq)
          have HTQ := Lib.hid (hT.out.trans (Touch.of_ext HXQ.out))
          have HNOW := Lib.hid ((HN.out wr HTW.out).ext HXQ.out)
          have HL4 : Hid ((x.org.flatMap pairC).length = x.org.length * 2) := flat_len pairC 2 (fun _ => rfl) x.org
          have HONE : Hid (∀ u, u ∈ x.org.flatMap pairC → u.oneCell' = true) := fun u hu => by
           obtain ⟨o', _, ho'⟩ := List.mem_flatMap.1 hu
           simp only [pairC, List.mem_cons, List.mem_nil_iff, or_false] at ho'
           rcases ho' with rfl | rfl <;> rfl
          have HS4 := Lib.hid (show 0 + x.org.length ≤ maxLen ∧ (0 + x.org.length) * 16 ≤ 140737488355328 by have := HXF.out; have := HS2.out.n2; unfold maxLen; omega)
          have HS10 := Lib.hid (show x.org.length + 1 ≤ maxLen ∧ (x.org.length + 1) * 16 ≤ 140737488355328 by have := HXF.out; have := HS2.out.n2; unfold maxLen; omega)
          have HGQ := Lib.hid (AllG.ext' hG.out HXQ.out)
          have HNEW : Hid (∀ (W : World) (v : Value), W.ownsRow wq.heap.size 84 2 v (x.org.length + 1) (x.org.flatMap pairC ++ [.int .i64 (r : Int), .int .i64 (y : Int)]) → PairsOff L.M W v (x.org ++ [((r : Int), (y : Int))])) := fun W v h => by
           refine ⟨?_, fun a n c hv hM => ?_⟩
           ·show RowAt W v (x.org ++ [((r : Int), (y : Int))]).length ((x.org ++ [((r : Int), (y : Int))]).flatMap pairC)
            have h2 := RowAt.of_owns h
            rw [List.flatMap_append, List.length_append, List.length_singleton]
            exact h2
           ·have h9 := owns_block h a.block (by
             obtain ⟨_, ⟨e, _⟩ | ⟨g', cap', cur, e, _⟩⟩ := h
             ·rw [hv] at e; cases e
             ·rw [hv] at e; cases e; rw [hv]; rfl)
            have := HGQ.out.lt _ hM
            omega
          have HREC := Lib.hid (fun (v : Value) (W : World) (h : Ext wq W) (hp : PairsOff L.M W v (x.org ++ [((r : Int), (y : Int))])) => HIH.out ⟨x.org ++ [((r : Int), (y : Int))], x.wea.set r row⟩ (k + truCnt b s f x q) v (.slice oa x.wea.length oc) W
           (by have := HXF.out; simp; omega)
           (StateB.with (s := sh') (o := ((r : Int), (y : Int))) HST.out (by have := HXF.out; have := HS2.out.n2; omega) (by
            have h1 := HNX2.out
            unfold nextsOf at h1
            split at h1
            ·have h := HSH1.out.2.1
             unfold shellAt at h
             rw [HMM.out, h] at h1; exact h1
            ·cases h1)).1
           (fun o' ho' => by
            rcases List.mem_append.1 ho' with h1 | h1
            ·exact HXO.out o' h1
            ·rw [List.mem_singleton] at h1; exact ⟨r, y, h1, HHR.out.1, HHR.out.2⟩)
           (fun j z hz => by
            obtain ⟨p1, p2, h1, h2⟩ := HTS.out
            rw [Nat.add_assoc]
            refine HTI.out _ z ?_
            rw [truAt_yes HNX2.out] at h1
            have hj := (List.getElem?_eq_some_iff.1 hz).1
            rw [h1, List.append_assoc, List.getElem?_append_right (by omega), h2, Nat.add_sub_cancel_left, List.getElem?_append_left hj]
            exact hz)
           (AllG.ext' HGQ.out h) hp (by have h1 := (HNX.out.ext hq).ext h; exact h1))
          have HFIN : Hid (∀ W, AllI b s L w0 (k + truCnt b s f x q + (truthsFrom b s f ⟨x.org ++ [((r : Int), (y : Int))], x.wea.set r row⟩).length) W → AllI b s L w0 (k + truCnt b s f x (q + 1)) W) := fun W h => by rw [HTC.out, ← Nat.add_assoc]; exact h
          have HS9 := Lib.hid (fun W (h : Touch L.M wq W) => (⟨(HC.out W ((HTW.out.trans (Touch.of_ext HXQ.out)).trans h)).1, (HC.out W ((HTW.out.trans (Touch.of_ext HXQ.out)).trans h)).2.1, (HC.out W ((HTW.out.trans (Touch.of_ext HXQ.out)).trans h)).2.2.1, (HC.out W ((HTW.out.trans (Touch.of_ext HXQ.out)).trans h)).2.2.2, h.cell (HS7.out wq HXQ.out).2.2.2.2.2.1 HUB.out, h.cell (HS7.out wq HXQ.out).2.2.2.2.2.2 HUB.out⟩ : W.cell? ⟨A.heap.size, 0, none⟩ = some (.int .i64 b.years) ∧ W.cell? ⟨A.heap.size, 1, none⟩ = some (.slice ra b.rivers.length rc) ∧ W.cell? ⟨A.heap.size + 1, 0, none⟩ = some (.slice (some ⟨sb, so, none⟩) s.shells.length sc) ∧ W.cell? ⟨A.heap.size + 1, 1, none⟩ = some (.slice ta s.tests.length tc) ∧ W.cell? ⟨ub, uo + q * 2, none⟩ = some (.int .i64 (r : Int)) ∧ W.cell? ⟨ub, uo + q * 2 + 1, none⟩ = some (.int .i64 (y : Int))))
          go_wp2
          go_upto_region 9 with fail
          refine wp_region_held_drew (S := (fun W => W.cell? ⟨A.heap.size, 0, none⟩ = some (.int .i64 b.years) ∧ W.cell? ⟨A.heap.size, 1, none⟩ = some (.slice ra b.rivers.length rc) ∧ W.cell? ⟨A.heap.size + 1, 0, none⟩ = some (.slice (some ⟨sb, so, none⟩) s.shells.length sc) ∧ W.cell? ⟨A.heap.size + 1, 1, none⟩ = some (.slice ta s.tests.length tc) ∧ W.cell? ⟨ub, uo + q * 2, none⟩ = some (.int .i64 (r : Int)) ∧ W.cell? ⟨ub, uo + q * 2 + 1, none⟩ = some (.int .i64 (y : Int)))) (by kernel_rfl) ?_ (fun hHeld => ?_)
          ·exact HS9.out _ (Touch.of_ext (Ext.refl wq).drew)
          refine hTk (i := 0) (d := some 68) (v := ?_) (fun o ho => ?_) hHeld ?_
          rotate_left
          ·simp only [zA, zB, zD] at ho
           subst ho
           refine ⟨by rfl, fun w hSw => ?_⟩
           (try dsimp only at hSw)
           go_simp
           try with_reducible rfl
          try simp only [Act.put, yA, yB, yC]
          refine hTk (i := 1) (d := some 69) (v := ?_) (fun o ho => ?_) hHeld ?_
          rotate_left
          ·simp only [zA, zB, zC, zD] at ho
           subst ho
           refine ⟨by rfl, fun w hSw => ?_⟩
           (try dsimp only at hSw)
           go_simp
           try with_reducible rfl
          try simp only [Act.put, yA, yB, yC]
          refine hTk (i := 2) (d := some 70) (v := ?_) (fun o ho => ?_) hHeld ?_
          rotate_left
          ·simp only [zA, zB, zC, zD] at ho
           subst ho
           refine ⟨by rfl, fun w hSw => ?_⟩
           (try dsimp only at hSw)
           go_simp
           try with_reducible rfl
          try simp only [Act.put, yA, yB, yC]
          refine hTk (i := 3) (d := some 71) (v := ?_) (fun o ho => ?_) hHeld ?_
          rotate_left
          ·simp only [zA, zB, zC, zD] at ho
           subst ho
           refine ⟨by rfl, fun w hSw => ?_⟩
           (try dsimp only at hSw)
           go_simp
           try with_reducible rfl
          try simp only [Act.put, yA, yB, yC]
          refine hTk (i := 5) (d := some 73) (v := ?_) (fun o ho => ?_) hHeld ?_
          rotate_left
          ·simp only [zA, zB, zC, zD] at ho
           subst ho
           refine ⟨by rfl, fun w hSw => ?_⟩
           (try dsimp only at hSw)
           go_simp
           try with_reducible rfl
          try simp only [Act.put, yA, yB, yC]
          refine hTk (i := 6) (d := some 74) (v := ?_) (fun o ho => ?_) hHeld ?_
          rotate_left
          ·simp only [zA, zB, zC, zD] at ho
           subst ho
           refine ⟨by rfl, fun w hSw => ?_⟩
           (try dsimp only at hSw)
           go_simp
           try with_reducible rfl
          try simp only [Act.put, yA, yB, yC]
          refine hTk (i := 7) (d := some 75) (v := ?_) (fun o ho => ?_) hHeld ?_
          rotate_left
          ·simp only [zA, zB, zC, zD] at ho
           subst ho
           refine ⟨by rfl, fun w hSw => ?_⟩
           (try dsimp only at hSw)
           go_simp
           try with_reducible rfl
          try simp only [Act.put, yA, yB, yC]
          refine hTk (i := 8) (d := some 76) (v := ?_) (fun o ho => ?_) hHeld ?_
          rotate_left
          ·simp only [zA, zB, zC, zD] at ho
           subst ho
           refine ⟨by rfl, fun w hSw => ?_⟩
           (try dsimp only at hSw)
           go_simp
           try with_reducible rfl
          try simp only [Act.put, yA, yB, yC]
          refine hTk (i := 11) (d := some 79) (v := ?_) (fun o ho => ?_) hHeld ?_
          rotate_left
          ·simp only [zA, zB, zC, zD] at ho
           subst ho
           refine ⟨by rfl, fun w hSw => ?_⟩
           (try dsimp only at hSw)
           go_simp
           try with_reducible rfl
          try simp only [Act.put, yA, yB, yC]
          refine wpAnyH_ready (rs := [4, 9]) (by kernel_rfl) (by simp) ?_
          refine held_step (i := 4) (by kernel_rfl) (fun o ho K' hK => ?_) ?_
          ·simp only [zA, zB, zC, zD] at ho
           subst ho
           refine step_append_row E_pairs (by rfl) _ _ (by rfl) wq.heap.size (by rfl) (World.ownsRow_nil _ _ _ _) (by rfl) (RowAt.ext HNOW.out.1 ((by repeat (first | exact Ext.refl _ | apply Ext.drew | apply Ext.alloc)) : Ext wq wq.drew)) HL4.out HONE.out HS4.out.1 HS4.out.2 ((by repeat (first | exact Ext.refl _ | apply Ext.drew | apply Ext.alloc)) : Ext wq wq.drew).size ?_
           intro v1 wa1 hown1 hgr1 _
           rw [Nat.zero_add, List.nil_append] at hown1
           have hxd : Ext wq.drew wa1 := Ext.grown (Ext.refl _) hgr1 (fun k hk => by cases hk)
           have hxe : Ext wq wa1 := ((by repeat (first | exact Ext.refl _ | apply Ext.drew | apply Ext.alloc)) : Ext wq wq.drew).trans hxd
           obtain ⟨a1, j1, rfl, _⟩ := RowAt.open (RowAt.of_owns hown1)
           have HO1 := Lib.hid hown1
           have HXD := Lib.hid hxd
           clear hown1 hgr1 hxd
           refine hK.out _ _ ?_ (fun hHeld => ?_)
           ·exact HS9.out _ (Touch.of_ext hxe)
           clear hK K'
           refine wpAnyH_ready (rs := [9]) (by kernel_rfl) (by simp) ?_
           refine held_step (i := 9) (by kernel_rfl) (fun o ho K' hK => ?_) ?_
           ·simp only [zA, zB, zC, zD] at ho
            subst ho
            go_simp
            refine hK.out _ _ ?_ (fun hHeld => ?_)
            ·exact HS9.out _ (Touch.of_ext (hxe.alloc _))
            clear hK K'
            try simp only [yA, yB, yC]
            refine wpAnyH_ready (rs := [10]) (by kernel_rfl) (by simp) ?_
            refine held_step (i := 10) (by kernel_rfl) (fun o ho K' hK => ?_) ?_
            ·simp only [zA, zB, zC, zD] at ho
             subst ho
             refine step_append_row E_pairs (by rfl) _ _ (by rfl) wq.heap.size (by rfl) (owns_ext HO1.out ((Ext.refl wa1).alloc _)) (by rfl) (RowAt.new1 wa1 #[.int .i64 (r : Int), .int .i64 (y : Int)] 84) (by rfl) (by simp [Value.oneCell']) HS10.out.1 HS10.out.2 (hxe.alloc (.cells #[.int .i64 (r : Int), .int .i64 (y : Int)] 84)).size ?_
             intro v2 w2 hown2 hgr2 _
             have hx2 : Ext wq w2 := Ext.grown (hxe.alloc (.cells #[.int .i64 (r : Int), .int .i64 (y : Int)] 84)) hgr2 (fun k hk => owns_block HO1.out k hk)
             obtain ⟨a2, j2, rfl, _⟩ := RowAt.open (RowAt.of_owns hown2)
             have HPO := Lib.hid (HNEW.out w2 _ hown2)
             clear hxe
             have hxe := hx2
             clear hx2 hown2 hgr2
             refine hK.out _ _ ?_ (fun hHeld => ?_)
             ·exact HS9.out _ (Touch.of_ext hxe)
             clear hK K'
             refine wpAnyH_ready (rs := [12]) (by kernel_rfl) (by simp) ?_
             refine held_step (i := 12) (by kernel_rfl) (fun o ho K' hK => ?_) ?_
             ·simp only [zA, zB, zC, zD] at ho
              subst ho
              go_simp
              go_at_call 43
              refine (HREC.out _ w2 hxe HPO.out).mono ?_
              rintro e w4 ⟨rfl, hT4, hI4⟩
              have HT4 := Lib.hid ((Touch.of_ext hxe : Touch L.M wq w2).trans hT4)
              have HI4 := Lib.hid hI4
              clear hT4 hI4
              refine hK.out _ _ ?_ (fun hHeld => ?_)
              ·exact HS9.out _ HT4.out
              clear hK K'
              try simp only [yA, yB, yC]
              refine wpAnyH_done (by kernel_rfl) ?_ _
              try simp only [yA, yB, yC]
              clear hHeld
              go_wp2
              refine ⟨⟨q + 1, by omega, by go_num, HFIN.out _ HI4.out, (HTQ.out.trans HT4.out)⟩, by simp [intOf]; omega⟩
             exact AllReadyH.nil
            exact AllReadyH.nil
           exact AllReadyH.nil
          refine held_step (i := 9) (by kernel_rfl) (fun o ho K' hK => ?_) ?_
          ·simp only [zA, zB, zC, zD] at ho
           subst ho
           go_simp
           refine hK.out _ _ ?_ (fun hHeld => ?_)
           ·exact HS9.out _ (Touch.of_ext (by repeat (first | exact Ext.refl _ | apply Ext.drew | apply Ext.alloc)))
           clear hK K'
           try simp only [yA, yB, yC]
           refine wpAnyH_ready (rs := [4]) (by kernel_rfl) (by simp) ?_
           refine held_step (i := 4) (by kernel_rfl) (fun o ho K' hK => ?_) ?_
           ·simp only [zA, zB, zC, zD] at ho
            subst ho
            refine step_append_row E_pairs (by rfl) _ _ (by rfl) wq.heap.size (by rfl) (World.ownsRow_nil _ _ _ _) (by rfl) (RowAt.ext HNOW.out.1 ((by repeat (first | exact Ext.refl _ | apply Ext.drew | apply Ext.alloc)) : Ext wq (wq.drew.alloc (.cells #[.int .i64 (r : Int), .int .i64 (y : Int)] 84)))) HL4.out HONE.out HS4.out.1 HS4.out.2 ((by repeat (first | exact Ext.refl _ | apply Ext.drew | apply Ext.alloc)) : Ext wq (wq.drew.alloc (.cells #[.int .i64 (r : Int), .int .i64 (y : Int)] 84))).size ?_
            intro v1 wa1 hown1 hgr1 _
            rw [Nat.zero_add, List.nil_append] at hown1
            have hxd : Ext (wq.drew.alloc (.cells #[.int .i64 (r : Int), .int .i64 (y : Int)] 84)) wa1 := Ext.grown (Ext.refl _) hgr1 (fun k hk => by cases hk)
            have hxe : Ext wq wa1 := ((by repeat (first | exact Ext.refl _ | apply Ext.drew | apply Ext.alloc)) : Ext wq (wq.drew.alloc (.cells #[.int .i64 (r : Int), .int .i64 (y : Int)] 84))).trans hxd
            obtain ⟨a1, j1, rfl, _⟩ := RowAt.open (RowAt.of_owns hown1)
            have HO1 := Lib.hid hown1
            have HXD := Lib.hid hxd
            clear hown1 hgr1 hxd
            refine hK.out _ _ ?_ (fun hHeld => ?_)
            ·exact HS9.out _ (Touch.of_ext hxe)
            clear hK K'
            refine wpAnyH_ready (rs := [10]) (by kernel_rfl) (by simp) ?_
            refine held_step (i := 10) (by kernel_rfl) (fun o ho K' hK => ?_) ?_
            ·simp only [zA, zB, zC, zD] at ho
             subst ho
             refine step_append_row E_pairs (by rfl) _ _ (by rfl) wq.heap.size (by rfl) HO1.out (by rfl) ((RowAt.new1 wq.drew #[.int .i64 (r : Int), .int .i64 (y : Int)] 84).ext HXD.out) (by rfl) (by simp [Value.oneCell']) HS10.out.1 HS10.out.2 hxe.size ?_
             intro v2 w2 hown2 hgr2 _
             have hx2 : Ext wq w2 := Ext.grown hxe hgr2 (fun k hk => owns_block HO1.out k hk)
             obtain ⟨a2, j2, rfl, _⟩ := RowAt.open (RowAt.of_owns hown2)
             have HPO := Lib.hid (HNEW.out w2 _ hown2)
             clear hxe
             have hxe := hx2
             clear hx2 hown2 hgr2
             refine hK.out _ _ ?_ (fun hHeld => ?_)
             ·exact HS9.out _ (Touch.of_ext hxe)
             clear hK K'
             refine wpAnyH_ready (rs := [12]) (by kernel_rfl) (by simp) ?_
             refine held_step (i := 12) (by kernel_rfl) (fun o ho K' hK => ?_) ?_
             ·simp only [zA, zB, zC, zD] at ho
              subst ho
              go_simp
              go_at_call 43
              refine (HREC.out _ w2 hxe HPO.out).mono ?_
              rintro e w4 ⟨rfl, hT4, hI4⟩
              have HT4 := Lib.hid ((Touch.of_ext hxe : Touch L.M wq w2).trans hT4)
              have HI4 := Lib.hid hI4
              clear hT4 hI4
              refine hK.out _ _ ?_ (fun hHeld => ?_)
              ·exact HS9.out _ HT4.out
              clear hK K'
              try simp only [yA, yB, yC]
              refine wpAnyH_done (by kernel_rfl) ?_ _
              try simp only [yA, yB, yC]
              clear hHeld
              go_wp2
              refine ⟨⟨q + 1, by omega, by go_num, HFIN.out _ HI4.out, (HTQ.out.trans HT4.out)⟩, by simp [intOf]; omega⟩
             exact AllReadyH.nil
            exact AllReadyH.nil
           exact AllReadyH.nil
          exact AllReadyH.nil
         exact AllReadyH.nil
        exact AllReadyH.nil
       exact AllReadyH.nil
    ·have x1 : decide ((q : Int) < (OL.length : Int)) = false := by simpa using hlt
     have hqe : q = OL.length := by omega
     subst hqe
     have HFE : Hid (truCnt b s f x OL.length = (truthsFrom b s (f + 1) x).length) := by unfold Hid; rw [← HORG.out]; exact truCnt_all b s f x
     have HG := Lib.hid hG.out
     have HTF := Lib.hid ((Touch.of_ext HX0.out).trans HTW.out)
     go_wp2
     go_end0
     exact ⟨rfl, HTF.out, by rw [← HFE.out]; exact HG.out⟩
  exact AllReadyH.nil
 exact AllReadyH.nil
end Go.Proofs.YtiodjapdiflphaaGreatDoor
