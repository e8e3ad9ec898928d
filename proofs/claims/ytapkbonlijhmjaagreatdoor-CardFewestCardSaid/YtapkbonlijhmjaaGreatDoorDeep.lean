/- Lists of lists of lists, all rows own; the reference's ways to part houses, in plain Lean. -/
import Derived.Test.YtapkbonlijhmjaaGreatDoorLists
import Derived.Test.YtapkbonlijhmjaaGreatDoorPlanp
namespace Go.Proofs.YtapkbonlijhmjaaGreatDoor
open Go.RowKit

theorem ListsOwn.kept {W W' : World} {base base' : Nat} {v v' : Value} {xss : List (List Int)} {e' : TypeId} {size' n' : Nat} {xs' : List Value} (h : ListsOwn W base v xss) (h' : W.ownsRow base' e' size' v' n' xs') (h1 : 22 ≠ e') (h2 : 3 ≠ e') (hg : W.grownBy W' v'.ownBlock) : ListsOwn W' base v xss := by
  obtain ⟨vals, k1, k2, k3⟩ := h
  exact ⟨vals, k1, k2.kept hg (owns_ne k2 h' h1), fun i u xs hu hx => (k3 i u xs hu hx).kept hg (owns_ne (k3 i u xs hu hx) h' h2)⟩
theorem ListsOwn.lower {W : World} {base base' : Nat} {v : Value} {xss : List (List Int)} (h : ListsOwn W base v xss) (hb : base' ≤ base) : ListsOwn W base' v xss := by
  obtain ⟨vals, k1, k2, k3⟩ := h
  exact ⟨vals, k1, owns_lower k2 hb, fun i u xs hu hx => owns_lower (k3 i u xs hu hx) hb⟩
/-- A slice of lists of lists, at rest. -/
def PlansAt (w : World) (v : Value) (x3 : List (List (List Int))) : Prop :=
  ∃ vs : List Value, vs.length = x3.length ∧ RowAt w v x3.length vs ∧ ∀ (i : Nat) (x : Value) (xss : List (List Int)), vs[i]? = some x → x3[i]? = some xss → RowsAt w x xss
theorem PlansAt.ext {w w' : World} {v : Value} {x3 : List (List (List Int))} (h : PlansAt w v x3) (k : Ext w w') : PlansAt w' v x3 := by
  obtain ⟨vs, h1, h2, h3⟩ := h
  exact ⟨vs, h1, h2.ext k, fun i x xs hx hxs => (h3 i x xs hx hxs).ext k⟩
theorem PlansAt.open {w : World} {v : Value} {x3 : List (List (List Int))} (h : PlansAt w v x3) : ∃ a c, v = .slice a x3.length c ∧ x3.length ≤ c ∧ c ≤ 9223372036854775807 ∧ ∀ i, i < x3.length → ∃ b o x xss, a = some ⟨b, o, none⟩ ∧ Hid (x3[i]? = some xss) ∧
    w.cell? ⟨b, o + i, none⟩ = some x ∧ RowsAt w x xss := by
  obtain ⟨vs, hl, ⟨a, c, hv, h1, h2, _, h3⟩, h4⟩ := h
  refine ⟨a, c, hv, h1, h2, fun i hi => ?_⟩
  obtain ⟨b, o, ha, hc⟩ := h3 i vs[i] (by simp)
  exact ⟨b, o, vs[i], x3[i], ha, (by simp [Hid, hi]), hc, h4 i _ _ (by simp) (by simp [hi])⟩
/-- The same, each in blocks of its own. -/
def PlansOwn (W : World) (base : Nat) (v : Value) (x3 : List (List (List Int))) : Prop := ∃ vals : List Value, vals.length = x3.length ∧ W.ownsRow base 23 1 v x3.length vals ∧ ∀ (i : Nat) (u : Value) (xss : List (List Int)), vals[i]? = some u → x3[i]? = some xss → ListsOwn W base u xss
theorem PlansOwn.nil (W : World) (base : Nat) : PlansOwn W base (.slice none 0 0) [] := ⟨[], rfl, World.ownsRow_nil _ _ _ _, fun i u xs h => by simp at h⟩
theorem PlansOwn.ext {W W' : World} {base : Nat} {v : Value} {x3 : List (List (List Int))} (h : PlansOwn W base v x3) (k : Ext W W') : PlansOwn W' base v x3 := by
  obtain ⟨vals, h1, h2, h3⟩ := h; exact ⟨vals, h1, owns_ext h2 k, fun i u xs hu hx => (h3 i u xs hu hx).ext k⟩
theorem PlansOwn.rest {W : World} {base : Nat} {v : Value} {x3 : List (List (List Int))} (h : PlansOwn W base v x3) : PlansAt W v x3 := by
  obtain ⟨vals, h1, h2, h3⟩ := h; exact ⟨vals, h1, RowAt.of_owns h2, fun i u xs hu hx => (h3 i u xs hu hx).rows⟩
theorem PlansOwn.lower {W : World} {base base' : Nat} {v : Value} {x3 : List (List (List Int))} (h : PlansOwn W base v x3) (hb : base' ≤ base) : PlansOwn W base' v x3 := by
  obtain ⟨vals, k1, k2, k3⟩ := h
  exact ⟨vals, k1, owns_lower k2 hb, fun i u xs hu hx => (k3 i u xs hu hx).lower hb⟩
theorem plans_push {W W' : World} {base g cap : Nat} {v u : Value} {x3 : List (List (List Int))} {xss : List (List Int)} {t : TypeId} {vals : List Value} (h1 : vals.length = x3.length) (h2 : W.ownsRow base 23 1 v x3.length vals) (h3 : ∀ (i : Nat) (u : Value) (xss : List (List Int)), vals[i]? = some u → x3[i]? = some xss → ListsOwn W base u xss)
    (hu : ListsOwn W base u xss) (own : W'.ownsRow base 23 1 (.slice (some ⟨g, 0, none⟩) (x3.length + 1) cap) (x3.length + 1) (vals ++ [u])) (hg : (W.alloc (.cells #[u] t)).grownBy W' v.ownBlock) : PlansOwn W' base (.slice (some ⟨g, 0, none⟩) (x3.length + 1) cap) (x3 ++ [xss]) := by
  have key : ∀ (z : Value) (zs : List (List Int)), ListsOwn W base z zs → ListsOwn W' base z zs := fun z zs hz =>
    (hz.ext ((Ext.refl W).alloc _)).kept (h2.alloc _) (by decide) (by decide) hg
  refine ⟨vals ++ [u], by simp [h1], by rw [List.length_append]; exact own, fun i z zs hz hzs => ?_⟩
  rcases Nat.lt_or_ge i vals.length with hi | hi
  · rw [List.getElem?_append_left hi] at hz
    rw [List.getElem?_append_left (by omega)] at hzs
    exact key z zs (h3 i z zs hz hzs)
  · have hie : i = vals.length := by
      have := (List.getElem?_eq_some_iff.1 hz).1
      rw [List.length_append, List.length_singleton] at this; omega
    subst hie
    rw [List.getElem?_append_right (Nat.le_refl _)] at hz
    rw [List.getElem?_append_right (by omega), h1] at hzs
    simp at hz hzs
    subst hz hzs
    exact key _ _ hu
/-- A list of lists whose rows lie apart. -/
def ListsSep (W : World) (base : Nat) (v : Value) (xss : List (List Int)) : Prop := ∃ vals : List Value, vals.length = xss.length ∧ W.ownsRow base 22 1 v xss.length vals ∧ (∀ (i : Nat) (u : Value) (xs : List Int), vals[i]? = some u → xss[i]? = some xs → W.ownsRow base 3 1 u xs.length (xs.map (.int .i64))) ∧
  ∀ (i j : Nat) (u z : Value), i ≠ j → vals[i]? = some u → vals[j]? = some z → u.ownBlock = none ∨ u.ownBlock ≠ z.ownBlock
theorem ListsSep.own {W : World} {base : Nat} {v : Value} {xss : List (List Int)} (h : ListsSep W base v xss) : ListsOwn W base v xss := by
  obtain ⟨vals, h1, h2, h3, _⟩ := h; exact ⟨vals, h1, h2, h3⟩
theorem ListsSep.ext {W W' : World} {base : Nat} {v : Value} {xss : List (List Int)} (h : ListsSep W base v xss) (k : Ext W W') : ListsSep W' base v xss := by
  obtain ⟨vals, h1, h2, h3, h4⟩ := h; exact ⟨vals, h1, owns_ext h2 k, fun i u xs hu hx => owns_ext (h3 i u xs hu hx) k, h4⟩
theorem ListsSep.nil (W : World) (base : Nat) : ListsSep W base (.slice none 0 0) [] := ⟨[], rfl, World.ownsRow_nil _ _ _ _, fun i u xs h => by simp at h, fun i j u z _ h => by simp at h⟩
theorem apart_sym {u z : Value} (h : u.ownBlock = none ∨ u.ownBlock ≠ z.ownBlock) : z.ownBlock = none ∨ z.ownBlock ≠ u.ownBlock := by
  rcases h with h | h
  · cases hz : z.ownBlock with
    | none => exact .inl rfl
    | some g => right; rw [h]; simp
  · exact .inr (fun e => h e.symm)
/-- One more row, from a block that was not there at S. -/
theorem sep_push {W W' : World} {base S g cap : Nat} {v u : Value} {xss : List (List Int)} {xs : List Int} {t : TypeId} {vals : List Value} (h1 : vals.length = xss.length) (h2 : W.ownsRow base 22 1 v xss.length vals) (h3 : ∀ (i : Nat) (u : Value) (xs : List Int), vals[i]? = some u → xss[i]? = some xs → W.ownsRow base 3 1 u xs.length (xs.map (.int .i64)))
    (h4 : ∀ (i j : Nat) (u z : Value), i ≠ j → vals[i]? = some u → vals[j]? = some z → u.ownBlock = none ∨ u.ownBlock ≠ z.ownBlock) (h5 : ∀ (i : Nat) (z : Value), vals[i]? = some z → ∀ b, z.ownBlock = some b → b < S)
    (hS : base ≤ S) (hu : W.ownsRow S 3 1 u xs.length (xs.map (.int .i64))) (own : W'.ownsRow base 22 1 (.slice (some ⟨g, 0, none⟩) (xss.length + 1) cap) (xss.length + 1) (vals ++ [u])) (hg : (W.alloc (.cells #[u] t)).grownBy W' v.ownBlock) : ListsSep W' base (.slice (some ⟨g, 0, none⟩) (xss.length + 1) cap) (xss ++ [xs]) := by
  obtain ⟨vals', k1, k2, k3⟩ := lists_push h1 h2 h3 (owns_lower hu hS) own hg
  have key : ∀ (z : Value) (zs : List Int), W.ownsRow base 3 1 z zs.length (zs.map (.int .i64)) → W'.ownsRow base 3 1 z zs.length (zs.map (.int .i64)) := fun z zs hz =>
    (hz.alloc _).kept hg (owns_ne hz h2 (by decide))
  refine ⟨vals ++ [u], by simp [h1], by rw [List.length_append]; exact own, fun i z zs hz hzs => ?_, fun i j y z hij hy hz => ?_⟩
  · rcases Nat.lt_or_ge i vals.length with hi | hi
    · rw [List.getElem?_append_left hi] at hz
      rw [List.getElem?_append_left (by omega)] at hzs
      exact key z zs (h3 i z zs hz hzs)
    · have hie : i = vals.length := by
        have := (List.getElem?_eq_some_iff.1 hz).1
        rw [List.length_append, List.length_singleton] at this; omega
      subst hie
      rw [List.getElem?_append_right (Nat.le_refl _)] at hz
      rw [List.getElem?_append_right (by omega), h1] at hzs
      simp at hz hzs
      subst hz hzs
      exact key _ _ (owns_lower hu hS)
  · have hnew : ∀ (i : Nat) (z : Value), vals[i]? = some z → z.ownBlock = none ∨ z.ownBlock ≠ u.ownBlock := fun i z hz => by
      cases hb : z.ownBlock with
      | none => exact .inl rfl
      | some b =>
        right; intro e
        have hl := h5 i z hz b hb
        have := (World.ownsRow.lt hu b e.symm).1
        omega
    have hi := (List.getElem?_eq_some_iff.1 hy).1
    have hj := (List.getElem?_eq_some_iff.1 hz).1
    rw [List.length_append, List.length_singleton] at hi hj
    rcases Nat.lt_or_ge i vals.length with qi | qi
    · rw [List.getElem?_append_left qi] at hy
      rcases Nat.lt_or_ge j vals.length with qj | qj
      · rw [List.getElem?_append_left qj] at hz
        exact h4 i j y z hij hy hz
      · have : j = vals.length := by omega
        subst this
        rw [List.getElem?_append_right (Nat.le_refl _)] at hz
        simp at hz
        subst hz
        exact hnew i y hy
    · have : i = vals.length := by omega
      subst this
      rw [List.getElem?_append_right (Nat.le_refl _)] at hy
      simp at hy
      subst hy
      rw [List.getElem?_append_left (by omega)] at hz
      exact apart_sym (hnew j z hz)
/-- The g-th row is grown by one number, and laid back. -/
theorem sep_grow {W W' : World} {base b cap i n : Nat} {u u' : Value} {xss : List (List Int)} {xs : List Int} {x : Int} {vals : List Value} (hn : n = xss.length) (h1 : vals.length = xss.length) (h2 : W.ownsRow base 22 1 (.slice (some ⟨b, 0, none⟩) n cap) n vals) (h3 : ∀ (i : Nat) (u : Value) (xs : List Int), vals[i]? = some u → xss[i]? = some xs → W.ownsRow base 3 1 u xs.length (xs.map (.int .i64)))
    (h4 : ∀ (i j : Nat) (u z : Value), i ≠ j → vals[i]? = some u → vals[j]? = some z → u.ownBlock = none ∨ u.ownBlock ≠ z.ownBlock) (hu : vals[i]? = some u) (hx : xss[i]? = some xs)
    (own : W'.ownsRow base 3 1 u' (xs.length + 1) (xs.map (.int .i64) ++ [.int .i64 x])) (hg : W.grownBy W' u.ownBlock) :
    ListsOwn (W'.setCell ⟨b, i, none⟩ u') base (.slice (some ⟨b, 0, none⟩) n cap) (xss.set i (xs ++ [x])) ∧ W'.cell? ⟨b, i, none⟩ = some u ∧ W'.frozen? ⟨b, i, none⟩ = false := by
  have hui := h3 i u xs hu hx
  have hk := h2.kept hg (owns_ne h2 hui (by decide))
  obtain ⟨hs1, hs2⟩ := hk.stored i u'
  have hil := (List.getElem?_eq_some_iff.1 hx).1
  have keep : ∀ (z : Value) (zs : List Int), W'.ownsRow base 3 1 z zs.length (zs.map (.int .i64)) → (W'.setCell ⟨b, i, none⟩ u').ownsRow base 3 1 z zs.length (zs.map (.int .i64)) := fun z zs hz =>
    hz.kept hs2 (owns_ne hz hk (by decide))
  refine ⟨⟨vals.set i u', by simp [h1], by rw [List.length_set, ← hn]; exact hs1, fun j z zs hz hzs => ?_⟩, by rw [hk.cellAt i (by omega), hu], hk.frozenAt i⟩
  by_cases e : i = j
  · subst e
    rw [List.getElem?_set_self (by omega)] at hz
    rw [List.getElem?_set_self hil] at hzs
    cases hz; cases hzs
    refine keep _ _ ?_
    rw [List.length_append, List.length_singleton, List.map_append]
    exact own
  · rw [List.getElem?_set_ne e] at hz hzs
    exact keep _ _ ((h3 j z zs hz hzs).kept hg (h4 j i z u (fun q => e q.symm) hz hu))

/-! ### The reference's ways, house by house -/
def waysUp (i : Nat) : List (List (List Int)) := partsUp i [[]] 1
theorem partsUp_snoc : ∀ (f : Nat) (out : List (List (List Int))) (h : Int), partsUp (f + 1) out h = (partsUp f out h).flatMap (nextAll (h + f))
  | 0, out, h => by simp [partsUp]
  | f + 1, out, h => by
    rw [partsUp, partsUp_snoc f, partsUp]
    congr 2
    omega
theorem waysUp_succ (i : Nat) : waysUp (i + 1) = (waysUp i).flatMap (nextAll ((i : Int) + 1)) := by
  unfold waysUp
  rw [partsUp_snoc, show (1 : Int) + (i : Int) = (i : Int) + 1 by omega]
theorem waysUp_all (c : Roads) : waysAll c = waysUp c.loads.length := rfl
theorem flat_le {α β : Type} {n : Nat} : ∀ (l : List α) (g : α → List β), (∀ x, x ∈ l → (g x).length ≤ n) → (l.flatMap g).length ≤ l.length * n
  | [], _, _ => by simp
  | x :: l, g, h => by
    rw [List.flatMap_cons, List.length_append, List.length_cons, Nat.succ_mul]
    have := h x (by simp)
    have := flat_le l g (fun y hy => h y (by simp [hy]))
    omega
theorem waysUp_bd : ∀ i : Nat, i ≤ 5 → (waysUp i).length ≤ 6 ^ i ∧ ∀ x, x ∈ waysUp i → x.length ≤ i ∧ ∀ l, l ∈ x → l.length ≤ i ∧ l ≠ []
  | 0, _ => ⟨by simp [waysUp, partsUp], fun x hx => by simp [waysUp, partsUp] at hx; subst hx; simp⟩
  | i + 1, hi => by
    obtain ⟨h1, h2⟩ := waysUp_bd i (by omega)
    rw [waysUp_succ]
    refine ⟨?_, fun x hx => ?_⟩
    · have := flat_le (n := 6) (waysUp i) (nextAll ((i : Int) + 1)) (fun x hx => by
        have := (h2 x hx).1
        simp [nextAll]; omega)
      rw [Nat.pow_succ]
      exact Nat.le_trans this (Nat.mul_le_mul_right _ h1)
    · rw [List.mem_flatMap] at hx
      obtain ⟨y, hy, hx⟩ := hx
      obtain ⟨g, _, rfl⟩ := List.mem_map.1 hx
      have hb := h2 y hy
      refine ⟨by have := (nextAt_length (now := y) (i := g) (h := (i : Int) + 1)).1; omega, fun l hl => ?_⟩
      rcases mem_nextAt hl with hl | rfl
      · exact ⟨by have := (hb.2 l hl).1; omega, (hb.2 l hl).2⟩
      · refine ⟨?_, by simp⟩
        rw [List.length_append, List.length_singleton]
        have : (y.getD g []).length ≤ i := by
          rw [List.getD_eq_getElem?_getD]
          cases hq : y[g]? with
          | none => simp
          | some z => exact (hb.2 z (List.mem_of_getElem? hq)).1
        omega
/-- What there is while the k-th way is gone on with, g ways of it done. -/
def midWay (i k g : Nat) : List (List (List Int)) := ((waysUp i).take k).flatMap (nextAll ((i : Int) + 1)) ++ (List.range g).map fun j => nextAt ((waysUp i).getD k []) j ((i : Int) + 1)
theorem midWay_succ (i k g : Nat) : midWay i k (g + 1) = midWay i k g ++ [nextAt ((waysUp i).getD k []) g ((i : Int) + 1)] := by
  unfold midWay; rw [List.range_succ]; simp
theorem midWay_start (i k : Nat) : midWay i k 0 = ((waysUp i).take k).flatMap (nextAll ((i : Int) + 1)) := by unfold midWay; simp
theorem midWay_end {i k : Nat} {x : List (List Int)} (h : (waysUp i)[k]? = some x) : midWay i k (x.length + 1) = ((waysUp i).take (k + 1)).flatMap (nextAll ((i : Int) + 1)) := by
  unfold midWay
  rw [List.take_add_one, h, List.getD_eq_getElem?_getD, h]
  simp [nextAll]
theorem midWay_len {i k g : Nat} (hi : i ≤ 4) (hk : k < (waysUp i).length) (hg : g ≤ i + 1) : (midWay i k g).length ≤ 100000 := by
  obtain ⟨h1, h2⟩ := waysUp_bd i (by omega)
  unfold midWay
  rw [List.length_append, List.length_map, List.length_range]
  have h3 := flat_le (n := 6) ((waysUp i).take k) (nextAll ((i : Int) + 1)) (fun x hx => by
    have := (h2 x (List.mem_of_mem_take hx)).1
    simp [nextAll]; omega)
  rw [List.length_take] at h3
  have h4 : (6 : Nat) ^ i ≤ 6 ^ 4 := Nat.pow_le_pow_right (by omega) hi
  have h5 : (6 : Nat) ^ 4 = 1296 := by decide
  have h6 : min k (waysUp i).length * 6 ≤ 1296 * 6 := Nat.mul_le_mul_right _ (by omega)
  omega
theorem midWay_next {i k : Nat} (h : (waysUp i).length ≤ k) : midWay i k 0 = waysUp (i + 1) := by
  rw [midWay_start, List.take_of_length_le h, waysUp_succ]
/-- The houses from 1 on. -/
def upto (n : Nat) : List Int := (List.range n).map fun (i : Nat) => (i : Int) + 1
theorem upto_len (n : Nat) : (upto n).length = n := by simp [upto]
theorem upto_at {n i : Nat} (h : i < n) : (upto n)[i]? = some ((i : Int) + 1) := by simp [upto, h]
theorem upto_succ (n : Nat) : upto (n + 1) = upto n ++ [(n : Int) + 1] := by unfold upto; rw [List.range_succ]; simp
theorem E_plans : Elem Tryz.prog 98 23 1 24 (.slice none 0 0) := by
  obtain ⟨i, h1, h2, h3, h4⟩ := info_parts (P := Tryz.prog) (e := 23) (z := .slice none 0 0) (size := 1) (bytes := 24) (by kernel_rfl)
  exact ⟨Tryz.underlying98, ⟨i, h1, h2, h3, h4⟩, rfl, by decide⟩
end Go.Proofs.YtapkbonlijhmjaaGreatDoor
