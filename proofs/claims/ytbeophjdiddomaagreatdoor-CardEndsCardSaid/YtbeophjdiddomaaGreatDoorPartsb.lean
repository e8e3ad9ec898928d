/- The lists of lists of houses: what they are, and the clone of one. -/
import Derived.Test.YtbeophjdiddomaaGreatDoorTour
import Derived.Laws.OwnMore
import Derived.WalkMore
import Derived.Scope
namespace Go.Proofs.YtbeophjdiddomaaGreatDoor
open Go.RowKit

/-- House h is put into list i, or into a new list. -/
def nextAt (now : List (List Int)) (i : Nat) (h : Int) : List (List Int) := if i < now.length then now.set i ((now.getD i []) ++ [h]) else now ++ [[h]]
def partsFrom (c : Roads) : Nat → List (List Int) → Int → List (List (List Int))
  | 0, now, _ => [now]
  | f + 1, now, h => (List.range (now.length + 1)).flatMap fun i => if c.bears < loadOf c ((nextAt now i h).getD i []) then [] else partsFrom c f (nextAt now i h) (h + 1)
def partsOf (c : Roads) : List (List (List Int)) := partsFrom c c.loads.length [] 1

/-- A slice of slices, none of whose arrays lies in M. -/
def RowsOff (M : Nat → Prop) (w : World) (v : Value) (xss : List (List Int)) : Prop :=
  ∃ vs : List Value, vs.length = xss.length ∧ RowAt w v xss.length vs ∧ (∀ a n c, v = .slice (some a) n c → ¬ M a.block) ∧ ∀ (i : Nat) (x : Value) (xs : List Int), vs[i]? = some x → xss[i]? = some xs → IntsOff M w x xs
theorem RowAt.touch {M : Nat → Prop} {A B : World} {v : Value} {n : Nat} {cs : List Value} (h : RowAt A v n cs) (k : Touch M A B) (hm : ∀ a n c, v = .slice (some a) n c → ¬ M a.block) : RowAt B v n cs := by
  obtain ⟨a, c, rfl, h1, h2, h0, h3⟩ := h
  exact ⟨a, c, rfl, h1, h2, h0, fun j u hj => by
    obtain ⟨b, o, rfl, hc⟩ := h3 j u hj
    exact ⟨b, o, rfl, k.cell hc (hm ⟨b, o, none⟩ _ _ rfl)⟩⟩
theorem RowsOff.touch {M : Nat → Prop} {A B : World} {v : Value} {xss : List (List Int)} (h : RowsOff M A v xss) (k : Touch M A B) : RowsOff M B v xss := by
  obtain ⟨vs, h1, h2, h3, h4⟩ := h
  exact ⟨vs, h1, h2.touch k h3, h3, fun i x xs hx hxs => (h4 i x xs hx hxs).touch k⟩
theorem RowsOff.quiet {M : Nat → Prop} {n : Nat} {A B : World} {v : Value} {xss : List (List Int)} (h : RowsOff M A v xss) (k : Quiet n A B) : RowsOff M B v xss := by
  obtain ⟨vs, h1, h2, h3, h4⟩ := h
  exact ⟨vs, h1, k.row h2, h3, fun i x xs hx hxs => (h4 i x xs hx hxs).quiet k⟩
theorem RowsOff.rows {M : Nat → Prop} {A : World} {v : Value} {xss : List (List Int)} (h : RowsOff M A v xss) : RowsAt A v xss := by
  obtain ⟨vs, h1, h2, h3, h4⟩ := h
  exact ⟨vs, h1, h2, fun i x xs hx hxs => (h4 i x xs hx hxs).1⟩
theorem RowsOff.nil (M : Nat → Prop) (w : World) : RowsOff M w (.slice none 0 0) [] := ⟨[], rfl, RowAt.nil w, (fun a n c h => by cases h), fun i x xs h => by simp at h⟩
theorem RowsOff.one {M : Nat → Prop} {A : World} {xss : List (List Int)} {vs : List Value} (hl : vs.length = xss.length) (h4 : ∀ (i : Nat) (x : Value) (xs : List Int), vs[i]? = some x → xss[i]? = some xs → IntsOff M A x xs) : ∀ u, u ∈ vs → u.oneCell' = true := by
  intro u hu
  obtain ⟨i, hi, rfl⟩ := List.mem_iff_getElem.1 hu
  obtain ⟨a, k, hv, _⟩ := (h4 i vs[i] (xss[i]'(by omega)) (by simp) (by simp)).1.open
  rw [hv]; rfl

theorem E_rows : Elem Tryz.prog 67 33 1 24 (.slice none 0 0) := by
  obtain ⟨i, h1, h2, h3, h4⟩ := info_parts (P := Tryz.prog) (e := 33) (z := .slice none 0 0) (size := 1) (bytes := 24) (by kernel_rfl)
  exact ⟨Tryz.underlying67, ⟨i, h1, h2, h3, h4⟩, rfl, by decide⟩

def ClonePostV (w : World) (vs : List Value) (e : Ending) (w' : World) : Prop := ∃ v, e = .returned v ∧ w'.ownsRow w.heap.size 33 1 v vs.length vs ∧ Ext w w'
set_option maxRecDepth 100000 in
theorem clone_rows (v : Value) (vs : List Value) (w : World) (hv : RowAt w v vs.length vs) (hone : ∀ u, u ∈ vs → u.oneCell' = true) (hl : vs.length ≤ 1000000) :
    Calls Tryz.prog 126 #[v] w (ClonePostV w vs) := by
  have hv' := hv.ext ((Ext.refl w).alloc (.cells #[] 33))
  obtain ⟨a, c, rfl, h1, h2, h0, _⟩ := hv
  have heq := fun w1 => Lib.run_eql_slice_nil (P := Tryz.prog) w1 67 33 a vs.length c 0 0 Tryz.underlying67
  cases a with
  | none =>
    have hc := h0 rfl
    have hx : vs = [] := by
      cases vs with
      | nil => rfl
      | cons x l => simp at h1; omega
    subst hx
    subst hc
    have hfin : ClonePostV w [] (.returned (.slice none 0 0)) w := ⟨_, rfl, World.ownsRow_nil _ _ _ _, Ext.refl _⟩
    have HF := Lib.hid hfin
    clear hfin hv' heq hone
    have heq := fun w1 => Lib.run_eql_slice_nil (P := Tryz.prog) w1 67 33 none 0 0 0 0 Tryz.underlying67
    go_enter Tryz.func126, Tryz.ntmps126
    go_wp2
    go_ret
    exact HF.out
  | some ad =>
    have hown := World.ownsRow_lit (base := w.heap.size) (e := 33) (size := 1) w #[] 0 (Nat.le_refl _) (Nat.zero_le _) rfl
    have HV := Lib.hid hv'
    have HO := Lib.hid hown
    have HN := Lib.hid hone
    clear hv' hown hone
    go_enter Tryz.func126, Tryz.ntmps126
    go_wp2_with (at_builtin; refine wpList_append_row E_rows rfl _ _ rfl w.heap.size rfl HO.out rfl HV.out (by simp) HN.out ?_ ?c1 ?c2 ?c3; intro v' w2 hown' hgrow _)
    case c1 => unfold maxLen; omega
    case c2 => omega
    try (case c3 => simp)
    go_ret
    exact ⟨_, rfl, by simpa using hown', Ext.grown ((Ext.refl w).alloc _) hgrow (fun k hk => by cases hk; exact Nat.le_refl _)⟩
end Go.Proofs.YtbeophjdiddomaaGreatDoor

/- The search of the lists of lists of houses. -/
namespace Go.Proofs.YtbeophjdiddomaaGreatDoor
open Go.RowKit

theorem owns_ext {w w' : World} {base : Nat} {e : TypeId} {size : Nat} {v : Value} {n : Nat} {xs : List Value} (h : w.ownsRow base e size v n xs) (k : Ext w w') : w'.ownsRow base e size v n xs := by
  obtain ⟨h1, ⟨rfl, rfl⟩ | ⟨g, cap, cur, hv, hg1, hh, r⟩⟩ := h
  · exact ⟨h1, .inl ⟨rfl, rfl⟩⟩
  · exact ⟨h1, .inr ⟨g, cap, cur, hv, hg1, (k.block (Array.getElem?_eq_some_iff.1 hh).1).trans hh, r⟩⟩
theorem IntsOff.less {M N : Nat → Prop} {w : World} {v : Value} {xs : List Int} (h : IntsOff M w v xs) (hm : ∀ i, N i → M i) : IntsOff N w v xs := ⟨h.1, fun a n c ha hn => h.2 a n c ha (hm _ hn)⟩
theorem nextAt_lt {now : List (List Int)} {i : Nat} {h : Int} (hi : i < now.length) : nextAt now i h = now.set i (now.getD i [] ++ [h]) := by unfold nextAt; rw [if_pos hi]
theorem nextAt_end {now : List (List Int)} {h : Int} : nextAt now now.length h = now ++ [[h]] := by unfold nextAt; rw [if_neg (Nat.lt_irrefl _)]
theorem nextAt_getD {now : List (List Int)} {i : Nat} {h : Int} (hi : i ≤ now.length) : (nextAt now i h).getD i [] = now.getD i [] ++ [h] := by
  by_cases hl : i < now.length
  · rw [nextAt_lt hl]; simp [List.getD, hl]
  · have : i = now.length := by omega
    subst this; rw [nextAt_end]; simp [List.getD]
theorem rows_next {W : World} {B0 base g cap j : Nat} {now : List (List Int)} {vs : List Value} {u : Value} {h : Int} (hb : B0 ≤ base) (hl : vs.length = now.length) (hj : j ≤ now.length)
    (hown : W.ownsRow base 33 1 (.slice (some ⟨g, 0, none⟩) (now.length + 1) cap) (now.length + 1) ((vs ++ [Value.slice none 0 0]).set j u))
    (h4 : ∀ (i : Nat) (x : Value) (xs : List Int), vs[i]? = some x → now[i]? = some xs → IntsOff (· < B0) W x xs) (hu : IntsOff (· < B0) W u (now.getD j [] ++ [h])) :
    RowsOff (· < B0) W (.slice (some ⟨g, 0, none⟩) (if j < now.length then now.length else now.length + 1) cap) (nextAt now j h) := by
  have hg : base ≤ g := owns_block hown g rfl
  obtain ⟨a, c, hv, k1, k2, k0, k3⟩ := RowAt.of_owns hown
  cases hv
  have hcell : ∀ i x, ((vs ++ [Value.slice none 0 0]).set j u)[i]? = some x → W.cell? ⟨g, i, none⟩ = some x := fun i x hx => by
    obtain ⟨b, o, hbo, hc⟩ := k3 i x hx
    cases hbo; simpa using hc
  by_cases hlt : j < now.length
  · rw [if_pos hlt, nextAt_lt hlt]
    refine ⟨vs.set j u, by simp [hl], ⟨_, _, by simp, by simp; omega, k2, (fun h => by cases h), fun i x hx => ⟨g, 0, rfl, ?_⟩⟩, (fun a n c ha => by cases ha; simp only [Nat.not_lt]; omega), fun i x xs hx hxs => ?_⟩
    · rw [Nat.zero_add]
      refine hcell i x ?_
      have hi : i < (vs.set j u).length := (List.getElem?_eq_some_iff.1 hx).1
      rw [List.set_append_left _ _ (by omega), List.getElem?_append_left hi, hx]
    · by_cases hij : j = i
      · subst hij
        rw [List.getElem?_set_self (by omega)] at hx hxs
        cases hx; cases hxs; exact hu
      · rw [List.getElem?_set_ne hij] at hx hxs
        exact h4 i x xs hx hxs
  · have hje : j = now.length := by omega
    subst hje
    rw [if_neg hlt, nextAt_end]
    have hset : (vs ++ [Value.slice none 0 0]).set now.length u = vs ++ [u] := by
      rw [List.set_append_right _ _ (by omega), hl, Nat.sub_self]; rfl
    rw [hset] at hcell
    have hd : now.getD now.length [] = [] := by simp [List.getD]
    rw [hd, List.nil_append] at hu
    refine ⟨vs ++ [u], by simp [hl], ⟨_, _, by simp, by simpa using k1, k2, (fun h => by cases h), fun i x hx => ⟨g, 0, rfl, by rw [Nat.zero_add]; exact hcell i x hx⟩⟩, (fun a n c ha => by cases ha; simp only [Nat.not_lt]; omega), fun i x xs hx hxs => ?_⟩
    by_cases hi : i < now.length
    · rw [List.getElem?_append_left (by omega)] at hx hxs
      exact h4 i x xs hx hxs
    · have hi2 : i < (vs ++ [u]).length := (List.getElem?_eq_some_iff.1 hx).1
      have : i = now.length := by simp at hi2; omega
      subst this
      rw [List.getElem?_append_right (by omega), hl, Nat.sub_self] at hx
      rw [List.getElem?_append_right (by omega), Nat.sub_self] at hxs
      cases hx; cases hxs; exact hu

structure PartEnv (c : Roads) (w0 : World) (yb cb sb l : Nat) (lv fv : Value) (A : World) : Prop where
  ext : Ext w0 A
  y : A.cell? ⟨yb, 0, none⟩ = some (.func (.yield l) #[] #[])
  c0 : A.cell? ⟨cb, 0, none⟩ = some lv
  c1 : A.cell? ⟨cb, 1, none⟩ = some (.int .i64 c.bears)
  c2 : A.cell? ⟨cb, 2, none⟩ = some fv
  s : A.cell? ⟨sb, 0, none⟩ = some (.func (.func 125) #[] #[.pointer (some ⟨cb, 0, none⟩), .pointer (some ⟨yb, 0, none⟩), .pointer (some ⟨sb, 0, none⟩)])
theorem PartEnv.touch {c : Roads} {w0 : World} {yb cb sb l : Nat} {lv fv : Value} {A B : World} {M : Nat → Prop} (h : PartEnv c w0 yb cb sb l lv fv A) (k : Touch M A B)
    (m : ∀ i, M i → w0.heap.size ≤ i) (m2 : ¬ M yb) (m3 : ¬ M cb) (m4 : ¬ M sb) : PartEnv c w0 yb cb sb l lv fv B :=
  ⟨k.ext h.ext m, k.cell h.y m2, k.cell h.c0 m3, k.cell h.c1 m3, k.cell h.c2 m3, k.cell h.s m4⟩

set_option maxRecDepth 100000 in
set_option maxHeartbeats 2000000 in
theorem part_leaf (c : Roads) (w0 : World) (yb cb sb l : Nat) (lv fv nowv : Value) (now : List (List Int)) (h : Int) (A : World) (M : Nat → Prop) (J : Nat → World → Prop) (Jx : World → Prop) (k B0 : Nat)
    (hlv : ∃ a n, lv = .slice a c.loads.length n) (hE : PartEnv c w0 yb cb sb l lv fv A) (hN : RowsOff (· < B0) A nowv now) (hh : (c.loads.length : Int) < h) (hAB : B0 ≤ A.heap.size)
    (hY : ∀ v A1, J k A1 → RowsOff (· < B0) A1 v now → B0 ≤ A1.heap.size → YieldAt Fence.wide 0 Tryz.prog l #[v] A1 (YRes M (J (k + 1)) Jx A1))
    (h0 : J k A) :
    CallsIn Fence.wide 0 Tryz.prog 125 #[nowv, .int .i64 h, .pointer (some ⟨cb, 0, none⟩), .pointer (some ⟨yb, 0, none⟩), .pointer (some ⟨sb, 0, none⟩)] A (OrdPost M J Jx k 1 A) := by
  obtain ⟨fn, tmps, assign, body, hy, hR⟩ := hY nowv A h0 hN hAB
  obtain ⟨la, lk, rfl⟩ := hlv
  obtain ⟨a, n, rfl, _⟩ := hN.rows.open
  have e2 := hE.y
  have e3 := hE.c0
  have t1 : decide ((c.loads.length : Int) < h) = true := by simpa using hh
  clear hY
  refine callsIn_wide.2 ?_
  go_enter Tryz.func125, Tryz.ntmps125
  go_wp2
  go_step3
  refine (wpIn_wide (n := 0)).1 ?_
  gi_wp2_with (refine RoundIn.mono hR ?_; rintro e w2 ⟨b, rfl, hpost⟩)
  rw [Exit.noGoto_ret]
  go_ret
  exact ⟨b, rfl, hpost.1, hpost.2.1, hpost.2.2⟩
end Go.Proofs.YtbeophjdiddomaaGreatDoor
