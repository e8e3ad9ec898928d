/- good. -/
import Derived.Test.YtiodjapdiflphaaGreatDoorState
import Derived.Test.YtiodjapdiflphaaGreatDoorCould
namespace Go.Proofs.YtiodjapdiflphaaGreatDoor
open Go.RowKit
theorem good_no1 {b : Book} {x : Licence} {t : Take} (h : ¬ x.river = t.river) : goodB b x t = false := by unfold goodB; simp [h]
theorem good_no2 {b : Book} {x : Licence} {t : Take} (h : t.low < x.first) : goodB b x t = false := by unfold goodB; simp [h]
theorem good_no3 {b : Book} {x : Licence} {t : Take} (h : x.last < t.high) : goodB b x t = false := by unfold goodB; simp [h]
theorem good_no4 {b : Book} {x : Licence} {r lo hi : Nat} {many : Int} {k : Nat} (hk : lo + k ≤ hi) (h : closedB b ((r : Int), ((lo + k : Nat) : Int)) = true) : goodB b x ⟨r, lo, hi, many⟩ = false := by
 unfold goodB
 rw [Bool.and_eq_false_iff]
 right
 rw [Bool.not_eq_false', List.any_eq_true]
 exact ⟨k, List.mem_range.2 (by simp only []; omega), by simpa using h⟩
theorem good_yes {b : Book} {x : Licence} {r lo hi : Nat} {many : Int} (h1 : x.river = r) (h2 : ¬ (lo : Int) < x.first) (h3 : ¬ x.last < (hi : Int)) (h : ∀ k, lo + k ≤ hi → closedB b ((r : Int), ((lo + k : Nat) : Int)) = false) : goodB b x ⟨r, lo, hi, many⟩ = true := by
 unfold goodB
 rw [Bool.and_eq_true]
 refine ⟨by simp [h1, h2, h3], ?_⟩
 rw [Bool.not_eq_true', List.any_eq_false]
 intro k hk
 have hk := List.mem_range.1 hk
 simp only at hk
 have := h k (by omega)
 simpa using this
set_option maxRecDepth 100000 in
set_option maxHeartbeats 4000000 in
theorem good_any (b : Book) (rv : Value) (x : Licence) (r lo hi : Nat) (many : Int) (w : World) (hB : BookB b) (hr : RiversAt w rv b.rivers) (h1 : r < b.rivers.length) (h2 : (hi : Int) < b.years) (hlh : lo ≤ hi) :
  Calls Tryz.prog 107 #[.agg #[.int .i64 b.years, rv], .agg #[.int .i64 x.river, .int .i64 x.first, .int .i64 x.last, .int .i64 x.quota], .agg #[.int .i64 r, .int .i64 lo, .int .i64 hi, .int .i64 many]] w fun e w' =>
   e = .returned (.bool (goodB b x ⟨r, lo, hi, many⟩)) ∧ Ext w w' := by
 obtain ⟨ra, rc, rfl, r1, r2, r3⟩ := hr.open
 obtain ⟨rb, ro, gv, R, rfl, hR, d0, d1, d2, hg⟩ := r3 r h1
 have hcl := hB.closed R (List.mem_of_getElem? hR.out)
 have hy6 := hB.y2
 have hp : (2 : Int) ^ b.years.toNat ≤ 64 := by
  have h := hB.y1
  rcases (by omega : b.years.toNat = 1 ∨ b.years.toNat = 2 ∨ b.years.toNat = 3 ∨ b.years.toNat = 4 ∨ b.years.toNat = 5 ∨ b.years.toNat = 6) with h | h | h | h | h | h <;> rw [h] <;> decide
 obtain ⟨c, hc⟩ : ∃ c : Nat, R.closed = c := ⟨R.closed.toNat, by omega⟩
 have HCB := Lib.hid (fun y => closedB_nat (y := y) hR.out hc)
 rw [hc] at d2
 have hc64 : c < 64 := by omega
 have hx0 : Ext w (((w.alloc (.cells #[.int .i64 b.years, .slice (some ⟨rb, ro, none⟩) b.rivers.length rc] 24)).alloc (.cells #[.int .i64 x.river, .int .i64 x.first, .int .i64 x.last, .int .i64 x.quota] 137)).alloc (.cells #[.int .i64 r, .int .i64 lo, .int .i64 hi, .int .i64 many] 139)) := (((Ext.refl w).alloc _).alloc _).alloc _
 have HX0 := Lib.hid hx0
 have q2 := hx0.cell d2
 have hh6 : hi < 6 := by omega
 have HH := Lib.hid (fun (y : Nat) (hy : y < 64) w1 => has_any c y w1 (by omega) hy)
 have i1 : (0 : Int) ≤ (r : Int) := by omega
 have i2 : (r : Int) < (b.rivers.length : Int) := by omega
 have hGY := good_yes (b := b) (x := x) (r := r) (lo := lo) (hi := hi) (many := many)
 have hG4 := fun k => good_no4 (b := b) (x := x) (r := r) (lo := lo) (hi := hi) (many := many) (k := k)
 have hG1 := good_no1 (b := b) (x := x) (t := ⟨r, lo, hi, many⟩)
 have hG2 := good_no2 (b := b) (x := x) (t := ⟨r, lo, hi, many⟩)
 have hG3 := good_no3 (b := b) (x := x) (t := ⟨r, lo, hi, many⟩)
 simp only at hG1 hG2 hG3
 obtain ⟨G, hG⟩ : ∃ G, goodB b x ⟨r, lo, hi, many⟩ = G := ⟨_, rfl⟩
 rw [hG] at hGY hG1 hG2 hG3 ⊢
 simp only [hG] at hG4
 have HGY := Lib.hid hGY
 have HG4 := Lib.hid hG4
 clear hG hGY hG4 r3 d0 d1 d2 hg hr hB hp hcl hc hR hx0 h1 h2
 by_cases c1 : x.river = r
 ·by_cases c2 : (lo : Int) < x.first
  ·have hgf := hG2 c2
   subst hgf
   have t1 : (x.river != (r : Int)) = false := by simpa using c1
   have t2 : decide ((lo : Int) < x.first) = true := by simpa using c2
   clear c1 c2 hG1 hG2 hG3
   go_enter Tryz.func107, Tryz.ntmps107
   go_wp2
   go_ret
   exact ⟨rfl, HX0.out⟩
  ·by_cases c3 : x.last < (hi : Int)
   ·have hgf := hG3 c3
    subst hgf
    have t1 : (x.river != (r : Int)) = false := by simpa using c1
    have t2 : decide ((lo : Int) < x.first) = false := by simpa using c2
    have t3 : decide (x.last < (hi : Int)) = true := by simpa using c3
    clear c1 c2 c3 hG1 hG2 hG3
    go_enter Tryz.func107, Tryz.ntmps107
    go_wp2
    go_ret
    exact ⟨rfl, HX0.out⟩
   ·have HY := Lib.hid (HGY.out c1 c2 c3)
    have t1 : (x.river != (r : Int)) = false := by simpa using c1
    have t2 : decide ((lo : Int) < x.first) = false := by simpa using c2
    have t3 : decide (x.last < (hi : Int)) = false := by simpa using c3
    clear c1 c2 c3 hG1 hG2 hG3
    go_enter Tryz.func107, Tryz.ntmps107
    go_wp2
    go_loop [7] (fun i => ∃ k : Nat, lo + k ≤ hi + 1 ∧ i = .int .i64 ((lo + k : Nat) : Int) ∧ Hid (∀ j, j < k → closedB b ((r : Int), ((lo + j : Nat) : Int)) = false)) (fun i => hi + 1 - (intOf i).toNat)
    case atStart => exact ⟨0, by omega, rfl, fun j hj => by omega⟩
    case round =>
     obtain ⟨k, hk, rfl, hz⟩ := hrel
     by_cases hle : lo + k ≤ hi
     ·have b1 : decide (((lo + k : Nat) : Int) ≤ (hi : Int)) = true := by simp; omega
      have b1' : decide ((lo : Int) + (k : Int) ≤ (hi : Int)) = true := by simp; omega
      have HK := Lib.hid (HH.out (lo + k) (by omega))
      have hcb := HCB.out (lo + k)
      cases hb : c.testBit (lo + k) with
      | true =>
       rw [hb] at HK hcb
       have hgf := HG4.out k hle hcb
       subst hgf
       clear hb hcb
       go_wp2_with (go_at_call 74; refine (HK.out _).mono ?_; rintro e w' ⟨rfl, rfl⟩)
       go_ret
       exact ⟨rfl, HX0.out⟩
      | false =>
       rw [hb] at HK hcb
       have HCC := Lib.hid hcb
       clear hb hcb
       go_wp2_with (go_at_call 74; refine (HK.out _).mono ?_; rintro e w' ⟨rfl, rfl⟩)
       go_round
       case rel => exact ⟨k + 1, by omega, by go_num, fun j hj => by
        rcases Nat.lt_succ_iff_lt_or_eq.1 hj with h | h
        ·exact hz.out j h
        ·rw [h]; exact HCC.out⟩
       case measure => simp [intOf]; omega
     ·have b1 : decide (((lo + k : Nat) : Int) ≤ (hi : Int)) = false := by simp; omega
      have b1' : decide ((lo : Int) + (k : Int) ≤ (hi : Int)) = false := by simp; omega
      have hgt := HY.out (fun j hj => hz.out j (by omega))
      subst hgt
      go_wp2
      go_ret
      exact ⟨rfl, HX0.out⟩
 ·have hgf := hG1 c1
  subst hgf
  have t1 : (x.river != (r : Int)) = true := by simpa using c1
  clear c1 hG1 hG2 hG3
  go_enter Tryz.func107, Tryz.ntmps107
  go_wp2
  go_ret
  exact ⟨rfl, HX0.out⟩
end Go.Proofs.YtiodjapdiflphaaGreatDoor
/- best: the first of some deals than which none is better. -/
namespace Go.Proofs.YtiodjapdiflphaaGreatDoor
open Go.RowKit
attribute [local go_sem] Oper.semAt_some
theorem Deal1_any (v1 v2 : Value) (a b : Int) (w : World) (h1 : IsSlice v1) (h2 : IsSlice v2) : Calls Tryz.prog 68 #[.agg #[v1, .int .i64 a], .agg #[v2, .int .i64 b]] w fun e w' => e = .returned (.bool (decide (a < b))) ∧ Ext w w' := by
 obtain ⟨_, _, _, rfl⟩ := h1
 obtain ⟨_, _, _, rfl⟩ := h2
 have hx : ∀ x y, Ext w ((w.alloc x).alloc y) := fun x y => ((Ext.refl w).alloc x).alloc y
 go_enter Tryz.func68, Tryz.ntmps68
 go_wp2
 go_ret
 exact ⟨rfl, hx _ _⟩
theorem ints_nb' (xs : List Int) : ∀ u, u ∈ xs.map (Value.int .i64) → NB u := by
 intro u hu
 obtain ⟨x, _, rfl⟩ := List.mem_map.1 hu
 exact NB.int _ _
/-- A deal, out of blocks that may not be written. -/
def DealIn (O : Nat → Prop) (A : World) (x : DealS) (v : Value) : Prop := ∃ sv, v = .agg #[sv, .int .i64 x.2] ∧ IntsAt A sv x.1 ∧ OffV (fun i => O i ∨ A.heap.size ≤ i) sv
theorem DealIn.less {O O' : Nat → Prop} {A : World} {x : DealS} {v : Value} (h : DealIn O A x v) (ho : ∀ i, O' i → O i) : DealIn O' A x v := by
 obtain ⟨sv, h1, h2, h3⟩ := h
 exact ⟨sv, h1, h2, h3.less (fun i hi => hi.imp (ho i) id)⟩
theorem DealIn.quiet {O : Nat → Prop} {n : Nat} {A B : World} {x : DealS} {v : Value} (h : DealIn O A x v) (q : Quiet n A B) : DealIn O B x v := by
 obtain ⟨sv, h1, h2, h3⟩ := h
 have hs := q.size
 exact ⟨sv, h1, q.row h2 (ints_nb' x.1), h3.less (fun i hi => hi.imp id (fun h => by omega))⟩
theorem DealIn.step {O : Nat → Prop} {A B : World} {x : DealS} {v : Value} (h : DealIn O A x v) (k : Touch O A B) : DealIn O B x v := by
 obtain ⟨sv, h1, h2, h3⟩ := h
 have hs := k.size
 exact ⟨sv, h1, RowAt.touch h2 (k.mono (fun i hi => .inl hi)) h3, h3.less (fun i hi => hi.imp id (fun h => by omega))⟩
def ltD (x y : DealS) : Bool := decide (x.2 < y.2)
theorem firstBest_succ {xs : List DealS} {k : Nat} {x : DealS} (h : xs[k]? = some x) : firstBest ltD (xs.take (k + 1)) = stepBest ltD (firstBest ltD (xs.take k)) x := by
 unfold firstBest; rw [List.take_add_one, h, List.foldl_append]; rfl
theorem firstBest_some (z : DealS) (zs : List DealS) : firstBest ltD (z :: zs) ≠ none := by
 unfold firstBest
 rw [List.foldl_cons]
 have key : ∀ (ys : List DealS) (a : DealS), ys.foldl (stepBest ltD) (some a) ≠ none := by
  intro ys
  induction ys with
  | nil => intro a h; cases h
  | cons y ys ih => intro a; rw [List.foldl_cons]; show (ys.foldl (stepBest ltD) (if ltD y a then some y else some a)) ≠ none; split <;> exact ih _
 exact key zs z
/-- What a round leaves. -/
structure BestD (xs : List DealS) (w : World) (k : Nat) (O : Nat → Prop) (W : World) : Prop where
 ext : Ext w W
 less : W.cell? ⟨w.heap.size, 0, none⟩ = some (.func (.func 68) #[] #[])
 res : Box2 W (w.heap.size + 1) (.slice none 0 0) (.int .i64 0)
 o : ∀ i, O i ↔ i = w.heap.size + 1 ∨ i = w.heap.size + 2 ∨ i = w.heap.size + 3
 out : match firstBest ltD (xs.take k) with
  | none => Box2 W (w.heap.size + 2) (.slice none 0 0) (.int .i64 0) ∧ W.heap[w.heap.size + 3]? = some (.cells #[.bool true] 4)
  | some y => (∃ sv, DealIn O W y (.agg #[sv, .int .i64 y.2]) ∧ Box2 W (w.heap.size + 2) sv (.int .i64 y.2)) ∧ W.heap[w.heap.size + 3]? = some (.cells #[.bool false] 4)
theorem Box2.low {w W' : World} {b n : Nat} {x y : Value} (h : Box2 w b x y) (q : Quiet n w W') (hb : b < n) : Box2 W' b x y := by
 obtain ⟨o, ho, _⟩ := cells_of_cell h.c0
 have hk := (q.keep _ _ ho (.inl hb)).trans ho.symm
 exact ⟨(World.cell?_of_block (w := w) (a := ⟨b, 0, none⟩) hk).trans h.c0, (World.cell?_of_block (w := w) (a := ⟨b, 1, none⟩) hk).trans h.c1, (World.frozen?_of_block (w := w) (a := ⟨b, 0, none⟩) hk).trans h.f0, (World.frozen?_of_block (w := w) (a := ⟨b, 1, none⟩) hk).trans h.f1⟩
theorem BestD.quiet {xs : List DealS} {w : World} {k n : Nat} {O : Nat → Prop} {W W' : World} (h : BestD xs w k O W) (q : Quiet n W W') (hn : w.heap.size + 4 ≤ n) : BestD xs w k O W' := by
 have h1 := h.ext.quiet (by omega) q
 have h2 := q.cell_lt h.less (by simp only []; omega)
 have h3 := h.res.low q (by omega)
 refine ⟨h1, h2, h3, h.o, ?_⟩
 have h4 := h.out
 cases hb : firstBest ltD (xs.take k) with
 | none => rw [hb] at h4; exact ⟨h4.1.low q (by omega), q.keep _ _ h4.2 (.inl (by omega))⟩
 | some y =>
  rw [hb] at h4
  obtain ⟨⟨sv, a, b⟩, c⟩ := h4
  exact ⟨⟨sv, a.quiet q, b.low q (by omega)⟩, q.keep _ _ c (.inl (by omega))⟩
theorem BestD.ext' {xs : List DealS} {w : World} {k : Nat} {O : Nat → Prop} {W W' : World} (h : BestD xs w k O W) (q : Ext W W') : BestD xs w k O W' := by
 refine ⟨h.ext.trans q, q.cell h.less, h.res.ext q, h.o, ?_⟩
 have h4 := h.out
 cases hb : firstBest ltD (xs.take k) with
 | none => rw [hb] at h4; exact ⟨h4.1.ext q, (Below.block q _ (Array.getElem?_eq_some_iff.1 h4.2).1).trans h4.2⟩
 | some y =>
  rw [hb] at h4
  obtain ⟨⟨sv, a, b⟩, c⟩ := h4
  exact ⟨⟨sv, a.step (Touch.of_ext q), b.ext q⟩, (Below.block q _ (Array.getElem?_eq_some_iff.1 c).1).trans c⟩
theorem set_bool {w : World} {b : Nat} {x y : Bool} {t : TypeId} (h : w.heap[b]? = some (.cells #[.bool x] t)) : (w.setCell ⟨b, 0, none⟩ (.bool y)).heap[b]? = some (.cells #[.bool y] t) := by
 unfold World.setCell
 show (w.heap.modify b _)[b]? = _
 rw [Array.getElem?_modify, if_pos rfl, h]
 rfl
/-- The better one is taken. -/
theorem BestD.take {xs : List DealS} {w : World} {k : Nat} {O : Nat → Prop} {W : World} {x : DealS} {sv u0 u1 : Value} {f : Bool} (h : BestD xs w k O W) (hx : xs[k]? = some x) (hen : DealIn O W x (.agg #[sv, .int .i64 x.2])) (hb : stepBest ltD (firstBest ltD (xs.take k)) x = some x)
  (hbox : Box2 W (w.heap.size + 2) u0 u1) (hf : W.heap[w.heap.size + 3]? = some (.cells #[.bool f] 4)) :
  Touch O W (((W.setCell ⟨w.heap.size + 2, 0, none⟩ sv).setCell ⟨w.heap.size + 2, 1, none⟩ (.int .i64 x.2)).setCell ⟨w.heap.size + 3, 0, none⟩ (.bool false)) ∧ BestD xs w (k + 1) O (((W.setCell ⟨w.heap.size + 2, 0, none⟩ sv).setCell ⟨w.heap.size + 2, 1, none⟩ (.int .i64 x.2)).setCell ⟨w.heap.size + 3, 0, none⟩ (.bool false)) := by
 have t1 : Touch (· = w.heap.size + 2) W ((W.setCell ⟨w.heap.size + 2, 0, none⟩ sv).setCell ⟨w.heap.size + 2, 1, none⟩ (.int .i64 x.2)) := (Touch.setCell (M := (· = w.heap.size + 2)) (a := ⟨w.heap.size + 2, 0, none⟩) sv rfl).trans (Touch.setCell (a := ⟨w.heap.size + 2, 1, none⟩) _ rfl)
 have t2 : Touch (· = w.heap.size + 3) ((W.setCell ⟨w.heap.size + 2, 0, none⟩ sv).setCell ⟨w.heap.size + 2, 1, none⟩ (.int .i64 x.2)) (((W.setCell ⟨w.heap.size + 2, 0, none⟩ sv).setCell ⟨w.heap.size + 2, 1, none⟩ (.int .i64 x.2)).setCell ⟨w.heap.size + 3, 0, none⟩ (.bool false)) := Touch.setCell (a := ⟨w.heap.size + 3, 0, none⟩) _ rfl
 have hT : Touch O W (((W.setCell ⟨w.heap.size + 2, 0, none⟩ sv).setCell ⟨w.heap.size + 2, 1, none⟩ (.int .i64 x.2)).setCell ⟨w.heap.size + 3, 0, none⟩ (.bool false)) :=
  (t1.mono (fun i hi => (h.o i).2 (.inr (.inl hi)))).trans (t2.mono (fun i hi => (h.o i).2 (.inr (.inr hi))))
 refine ⟨hT, Touch.ext h.ext hT (fun i hi => by have := (h.o i).1 hi; omega), hT.cell h.less (fun hi => by have := (h.o _).1 hi; simp only at this; omega), (h.res.touch t1 (by omega)).touch t2 (by omega), h.o, ?_⟩
 rw [firstBest_succ hx, hb]
 exact ⟨⟨sv, hen.step hT, (hbox.set sv (.int .i64 x.2)).touch t2 (by omega)⟩, set_bool (t1.keep _ _ hf (by omega))⟩
theorem BestD.leave {xs : List DealS} {w : World} {k : Nat} {O : Nat → Prop} {W W' : World} {x y : DealS} (h : BestD xs w k O W) (hx : xs[k]? = some x) (hy : firstBest ltD (xs.take k) = some y) (hb : stepBest ltD (some y) x = some y) (q : Ext W W') : BestD xs w (k + 1) O W' := by
 refine ⟨h.ext.trans q, q.cell h.less, h.res.ext q, h.o, ?_⟩
 have h4 := h.out
 rw [hy] at h4
 rw [firstBest_succ hx, hy, hb]
 obtain ⟨⟨sv, a, b⟩, c⟩ := h4
 exact ⟨⟨sv, a.step (Touch.of_ext q), b.ext q⟩, (Below.block q _ (Array.getElem?_eq_some_iff.1 c).1).trans c⟩
theorem dealIn_slice {O : Nat → Prop} {A : World} {x : DealS} {v : Value} (h : DealIn O A x v) : ∃ a n c, v = .agg #[.slice a n c, .int .i64 x.2] := by
 obtain ⟨sv, rfl, h2, _⟩ := h
 obtain ⟨_, _, rfl, _⟩ := h2.open
 exact ⟨_, _, _, rfl⟩
theorem enters_Deal1 : ∀ args w, (callFunc 68 args).run Tryz.prog w = .ok (.enter 68 args) w := enters_of Tryz.func68 (by kernel_rfl) rfl
set_option maxRecDepth 100000 in
set_option maxHeartbeats 8000000 in
theorem best_deal (xs : List DealS) (gf : Nat) (lb : Array Value) (w : World) (eg : ∀ args w, (callFunc gf args).run Tryz.prog w = .ok (.enter gf args) w)
  (hiter : ∀ W, Ext w W → W.heap.size = w.heap.size + 6 → Iter Tryz.prog gf lb DealIn xs (fun i => (i = w.heap.size + 1 ∨ i = w.heap.size + 2 ∨ i = w.heap.size + 3) ∨ i = w.heap.size + 5) W) (hne : xs ≠ []) :
  Calls Tryz.prog 66 #[.func (.func gf) #[] lb, .func (.func 68) #[] #[]] w fun e w' => ∃ (y : DealS) (sv : Value), firstBest ltD xs = some y ∧ e = .returned (.agg #[sv, .int .i64 y.2]) ∧ Ext w w' ∧ IntsAt w' sv y.1 := by
 have hmix : Tryz.prog.follows .mixedOrders = true := by kernel_rfl
 have HI := Lib.hid hiter
 have HNE := Lib.hid hne
 clear hiter hne
 refine (callsIn_wide (n := 0)).1 ?_
 refine callsIn_of_wp_marks Tryz.func66 rfl trivial ?_ rfl
 simp only [Tryz.ntmps66, List.size_toArray, List.length_cons, List.length_nil, Nat.reduceAdd, Nat.reduceSub, Array.replicate_succ, Array.replicate_zero, List.push_toArray, List.append_toArray, List.nil_append, List.cons_append]
 gi_wp2
 obtain ⟨W0, hW0⟩ : ∃ W0, W0 = ((((w.alloc (.cells #[.func (.func 68) #[] #[]] 135)).alloc (.cells #[.slice none 0 0, .int .i64 0] 131)).alloc (.cells #[.slice none 0 0, .int .i64 0] 131)).alloc (.cells #[.bool true] 4)) := ⟨_, rfl⟩
 rw [← hW0]
 have hz : W0.heap.size = w.heap.size + 4 := by rw [hW0]; simp
 have h0 : BestD xs w 0 (fun i => i = w.heap.size + 1 ∨ i = w.heap.size + 2 ∨ i = w.heap.size + 3) W0 := by
  rw [hW0]
  refine ⟨((((Ext.refl w).alloc _).alloc _).alloc _).alloc _, by go_simp, ⟨by go_simp, by go_simp, by go_simp, by go_simp⟩, fun i => Iff.rfl, ?_⟩
  rw [List.take_zero]
  refine ⟨⟨by go_simp, by go_simp, by go_simp, by go_simp⟩, ?_⟩
  have := World.alloc_heap_new (((w.alloc (.cells #[.func (.func 68) #[] #[]] 135)).alloc (.cells #[.slice none 0 0, .int .i64 0] 131)).alloc (.cells #[.slice none 0 0, .int .i64 0] 131)) (.cells #[.bool true] 4)
  simpa using this
 clear hW0
 refine wpIn_range (gf := gf) (lb := lb) (by rfl) eg DealIn (fun O O' A x v h k => DealIn.less k h) xs (fun i => i = w.heap.size + 1 ∨ i = w.heap.size + 2 ∨ i = w.heap.size + 3) ?hM ?hiter (BestD xs w) (fun _ _ => False) ?hI (fun _ _ _ h _ => h.elim) h0
  (fun k O x v a' W => ∃ (bb : Nat) (sa : Option Addr) (sn sc : Nat), v = .agg #[.slice sa sn sc, .int .i64 x.2] ∧ DealIn O W x v ∧ W.cell? ⟨bb, 0, none⟩ = some (.slice sa sn sc) ∧ W.cell? ⟨bb, 1, none⟩ = some (.int .i64 x.2) ∧ ∃ (u0 u1 u2 u4 u8 u9 u10 u11 u12 u13 u14 u15 u16 u17 u18 : Value), a' = { tmps := #[u0, u1, u2, .pointer (some ⟨w.heap.size, 0, none⟩), u4, .pointer (some ⟨w.heap.size + 1 + 1, 0, none⟩), .pointer (some ⟨w.heap.size + 1 + 1 + 1, 0, none⟩), .pointer (some ⟨bb, 0, none⟩), u8, u9, u10, u11, u12, u13, u14, u15, u16, u17, u18], defers := [] }) ?hAx ?hassign ?hbody ?hdone ?hstop
 case hM => intro k hk; omega
 case hiter =>
  intro W1 h1 h2
  have := HI.out W1 (h0.ext.trans h1) (by omega)
  rw [hz]
  exact this
 case hI =>
  intro k O A B h q
  exact h.quiet q (by omega)
 case hAx =>
  rintro k O x v a' A B ⟨bb, sa, sn, sc, h1, h2, h3, h4, h5⟩ q
  exact ⟨bb, sa, sn, sc, h1, h2.quiet q, q.cell h3 (NB.slice _ _ _), q.cell h4 (NB.int _ _), h5⟩
 case hstop => intro D c W _ h; exact h.elim
 case hassign =>
  intro l k O x v W K hi hx hen hK
  obtain ⟨sa, sn, sc, rfl⟩ := dealIn_slice hen
  have HK := Lib.hid hK
  clear hK
  gi_wp2
  refine HK.out _ (W.alloc (.cells #[.slice sa sn sc, .int .i64 x.2] 131)) ((Ext.refl W).alloc _) ⟨W.heap.size, sa, sn, sc, rfl, hen.step (Touch.of_ext ((Ext.refl W).alloc _)), by go_simp, by go_simp, ?_⟩
  (repeat apply Exists.intro)
  rfl
 case hbody =>
  rintro l k O x v a' W hl ⟨r, hr⟩ hO hi hx ⟨bb, sa, sn, sc, rfl, hen, g0, g1, hA⟩ hsz
  obtain ⟨u0, hA⟩ := hA
  obtain ⟨u1, hA⟩ := hA
  obtain ⟨u2, hA⟩ := hA
  obtain ⟨u4, hA⟩ := hA
  obtain ⟨u8, hA⟩ := hA
  obtain ⟨u9, hA⟩ := hA
  obtain ⟨u10, hA⟩ := hA
  obtain ⟨u11, hA⟩ := hA
  obtain ⟨u12, hA⟩ := hA
  obtain ⟨u13, hA⟩ := hA
  obtain ⟨u14, hA⟩ := hA
  obtain ⟨u15, hA⟩ := hA
  obtain ⟨u16, hA⟩ := hA
  obtain ⟨u17, hA⟩ := hA
  obtain ⟨u18, hA⟩ := hA
  subst hA
  have hout := hi.out
  have HOO := Lib.hid hO
  cases hb : firstBest ltD (xs.take k) with
  | none =>
   rw [hb] at hout
   obtain ⟨hbx, hbf⟩ := hout
   have HT := Lib.hid (hi.take hx hen (by rw [hb]; rfl) hbx hbf)
   obtain ⟨c0, c1, c2, c3⟩ := hbx
   obtain ⟨b0, b1⟩ := box_cell hbf
   have hs := hi.less
   clear hO hi hx hen hb
   gi_wp2
   refine ⟨HT.out.1, O, fun i hi => ⟨.inl hi, Nat.lt_of_lt_of_le (HOO.out i hi).2 HT.out.1.size⟩, HT.out.2⟩
  | some y =>
   rw [hb] at hout
   obtain ⟨⟨ov, hoy, hbx⟩, hbf⟩ := hout
   obtain ⟨oa, on, oc, hov⟩ := dealIn_slice hoy
   cases hov
   have HDL := Lib.hid (fun w1 => Deal1_any (.slice sa sn sc) (.slice oa on oc) x.2 y.2 w1 ⟨_, _, _, rfl⟩ ⟨_, _, _, rfl⟩)
   have HBI := Lib.hid hi
   have HEN := Lib.hid hen
   have HX := Lib.hid hx
   have HB := Lib.hid hb
   have hs := hi.less
   have HBX := Lib.hid hbx
   have HBF := Lib.hid hbf
   obtain ⟨c0, c1, c2, c3⟩ := hbx
   obtain ⟨b0, b1⟩ := box_cell hbf
   clear hO hi hx hen hb hoy hbf
   by_cases hlt : x.2 < y.2
   ·rw [decide_eq_true hlt] at HDL
    have HST := Lib.hid (show stepBest ltD (some y) x = some x by unfold stepBest ltD; simp [hlt])
    have HT := Lib.hid (fun (w2 : World) (q : Ext W w2) => (BestD.take (HBI.out.ext' q) HX.out (HEN.out.step (Touch.of_ext q)) (by rw [HB.out]; exact HST.out) (HBX.out.ext q) ((Below.block q _ (Array.getElem?_eq_some_iff.1 HBF.out).1).trans HBF.out)))
    have HG := Lib.hid (fun (w2 : World) (q : Ext W w2) => (⟨q.cell g0, q.cell g1⟩ : w2.cell? ⟨bb, 0, none⟩ = some (.slice sa sn sc) ∧ w2.cell? ⟨bb, 1, none⟩ = some (.int .i64 x.2)))
    clear hlt
    gi_wp2_with (gi_at_call 68; refine (callsIn_round (HDL.out _)).mono ?_; rintro e w2 ⟨rfl, hx2⟩; obtain ⟨k0, k1, k2, k3⟩ := HBX.out.ext hx2; obtain ⟨j0, j1⟩ := box_cell ((Below.block hx2 _ (Array.getElem?_eq_some_iff.1 HBF.out).1).trans HBF.out); obtain ⟨m0, m1⟩ := HG.out _ hx2)
    refine ⟨(Touch.of_ext hx2).trans (HT.out w2 hx2).1, O, fun i hi => ⟨.inl hi, Nat.lt_of_lt_of_le (HOO.out i hi).2 (Nat.le_trans hx2.size (HT.out w2 hx2).1.size)⟩, (HT.out w2 hx2).2⟩
   ·rw [decide_eq_false hlt] at HDL
    have HST := Lib.hid (show stepBest ltD (some y) x = some y by unfold stepBest ltD; simp [hlt])
    clear hlt
    gi_wp2_with (gi_at_call 68; refine (callsIn_round (HDL.out _)).mono ?_; rintro e w2 ⟨rfl, hx2⟩)
    refine ⟨Touch.of_ext hx2, O, fun i hi => ⟨.inl hi, by have := (HOO.out i hi).2; have := hx2.size; omega⟩, HBI.out.leave HX.out HB.out HST.out hx2⟩
 case hdone =>
  intro D O W hD hO hi hd
  have hout := hi.out
  rw [List.take_length] at hout
  have HX := Lib.hid hi.ext
  obtain ⟨r0, r1, r2, r3⟩ := hi.res
  cases hb : firstBest ltD xs with
  | none =>
   exfalso
   cases xs with
   | nil => exact HNE.out rfl
   | cons z zs => exact firstBest_some z zs hb
  | some y =>
   rw [hb] at hout
   obtain ⟨⟨ov, hoy, hbx⟩, -⟩ := hout
   obtain ⟨oa, on, oc, hov⟩ := dealIn_slice hoy
   cases hov
   have HY := Lib.hid hoy
   have HB := Lib.hid hb
   have hoo := (hi.o (w.heap.size + 1)).2 (.inl rfl)
   have hro : IntsAt W (.slice oa on oc) y.1 ∧ OffV (· = w.heap.size + 1) (.slice oa on oc) := by
    obtain ⟨_, e, h1, h2⟩ := hoy
    cases e
    exact ⟨h1, h2.less (fun i hi => by rw [hi]; exact .inl hoo)⟩
   obtain ⟨c0, c1, c2, c3⟩ := hbx
   have ht : Touch (· = w.heap.size + 1) W ((W.setCell ⟨w.heap.size + 1, 0, none⟩ (.slice oa on oc)).setCell ⟨w.heap.size + 1, 1, none⟩ (.int .i64 y.2)) := (Touch.setCell (M := (· = w.heap.size + 1)) (a := ⟨w.heap.size + 1, 0, none⟩) _ rfl).trans (Touch.setCell (a := ⟨w.heap.size + 1, 1, none⟩) _ rfl)
   have hd2 := ht.keep _ _ hd (by omega)
   have hres := (Box2.set ⟨r0, r1, r2, r3⟩ (.slice oa on oc) (.int .i64 y.2) : Box2 _ _ _ _)
   have hq := Quiet.putObj (n := W0.heap.size) (.deferred none) hd2 hD rfl
   have hres2 := hres.low hq (by omega)
   have hxf := (Touch.ext HX.out ht (fun i hi => by omega)).quiet (by omega) hq
   have HIN := Lib.hid (hq.row (RowAt.touch hro.1 ht hro.2) (ints_nb' y.1))
   clear hi hoy hb hres hq ht hro hoo
   obtain ⟨f0, f1, -, -⟩ := hres2
   gi_wp2
   refine ⟨by simp, .inl ⟨_, _, rfl, run_takeDeferred hd2, ?_⟩⟩
   exact ⟨.agg #[.slice oa on oc, .int .i64 y.2], by simp [results, Tryz.results66, go_sem, f0, f1], y, _, HB.out, rfl, hxf, HIN.out⟩
end Go.Proofs.YtiodjapdiflphaaGreatDoor
