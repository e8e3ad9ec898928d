/- Comparing lists of lists. -/
import Derived.Test.YtbeophjdiddomaaGreatDoorPartsd
import Derived.Test.YtbeophjdiddomaaGreatDoorTour
import Derived.Shelf.SlSortCmp.Whole1
import Derived.Test.YtbeophjdiddomaaGreatDoorRoadsb
import Derived.Maps.AppendAt
import Derived.Maps.OwnIn
namespace Go.Proofs.YtbeophjdiddomaaGreatDoor
open Go.RowKit

theorem plans11_any (va vb : Value) (x y : List Int) (w : World) (ha : IntsAt w va x) (hb : IntsAt w vb y) :
    Calls Tryz.prog 104 #[va, vb] w fun e w' => e = .returned (.int .i64 (cmpL x y)) ∧ w = w' := by
  have HC := Lib.hid (compareL_any va vb x y w ha hb)
  obtain ⟨a, k, rfl, _⟩ := ha.open
  obtain ⟨a', k', rfl, _⟩ := hb.open
  go_enter Tryz.func104, Tryz.ntmps104
  go_wp2_with (go_at_call 74; refine HC.out.mono ?_; rintro e w' ⟨rfl, rfl⟩)
  go_ret
  exact ⟨rfl, rfl⟩

theorem plan11_any (va vb : Value) (x y : List Int) (w : World) (ha : IntsAt w va x) (hb : IntsAt w vb y) :
    Calls Tryz.prog 73 #[va, vb] w fun e w' => e = .returned (.int .i64 (cmpL x y)) ∧ w = w' := by
  have HC := Lib.hid (compareL_any va vb x y w ha hb)
  obtain ⟨a, k, rfl, _⟩ := ha.open
  obtain ⟨a', k', rfl, _⟩ := hb.open
  go_enter Tryz.func73, Tryz.ntmps73
  go_wp2_with (go_at_call 74; refine HC.out.mono ?_; rintro e w' ⟨rfl, rfl⟩)
  go_ret
  exact ⟨rfl, rfl⟩

/-- The greatest of some numbers. -/
def maxL : List Int → Int
  | [] => 0
  | x :: l => l.foldl max x
theorem maxL_snoc {l : List Int} (h : l ≠ []) (x : Int) : maxL (l ++ [x]) = max (maxL l) x := by
  cases l with
  | nil => exact absurd rfl h
  | cons y l => simp [maxL, List.foldl_append]
theorem maxL_succ {xs : List Int} {k : Nat} {x : Int} (h : xs[k]? = some x) (hk : 1 ≤ k) : maxL (xs.take (k + 1)) = max (maxL (xs.take k)) x := by
  rw [List.take_add_one, h]
  refine maxL_snoc (fun e => ?_) x
  have := (List.getElem?_eq_some_iff.1 h).1
  have h2 := congrArg List.length e
  rw [List.length_take, List.length_nil] at h2; omega
theorem max_any (v : Value) (xs : List Int) (w : World) (hv : IntsAt w v xs) (hn : xs ≠ []) :
    Calls Tryz.prog 66 #[v] w fun e w' => e = .returned (.int .i64 (maxL xs)) ∧ w = w' := by
  obtain ⟨a, c, rfl, h1, h2, h3⟩ := hv.open
  have hpos : 1 ≤ xs.length := by cases xs with | nil => exact absurd rfl hn | cons y l => simp
  obtain ⟨b, o, x, rfl, hx, hc⟩ := h3 0 (by omega)
  rw [Nat.add_zero] at hc
  have t1 : decide ((xs.length : Int) < 1) = false := by simp; omega
  have hx0 : maxL (xs.take 1) = x := by
    have := hx.out
    cases xs with
    | nil => simp at this
    | cons y l => simp at this; subst this; simp [maxL]
  have HX := Lib.hid hx0
  have b0 : (0 : Int) < (xs.length : Int) := by omega
  clear hx0 hx
  go_enter Tryz.func66, Tryz.ntmps66
  go_wp2
  clear t1
  go_loopw [3, 4] (fun m i wr => ∃ k : Nat, 1 ≤ k ∧ k ≤ xs.length ∧ i = .int .i64 k ∧ m = .int .i64 (maxL (xs.take k)) ∧ w = wr) (fun _ i _ => xs.length - (intOf i).toNat)
  case atStart => exact ⟨1, Nat.le_refl _, hpos, rfl, by rw [HX.out], rfl⟩
  case round =>
    obtain ⟨k, hk1, hk, rfl, rfl, rfl⟩ := hrel
    by_cases hlt : k < xs.length
    · obtain ⟨b', o', y, hbb, hyk, hcy⟩ := h3 k hlt
      cases hbb
      have HS := Lib.hid (maxL_succ hyk.out hk1)
      clear h3
      go_wp2
      exact ⟨⟨k + 1, by omega, by omega, by go_num, by rw [HS.out]; first | done | (congr 1; first | done | (rw [Int.max_def]; split <;> split <;> omega)), trivial⟩, by simp [intOf]; omega⟩
    · have hkl : xs.take k = xs := List.take_of_length_le (by omega)
      rw [hkl]
      go_wp2
      go_ret
      exact ⟨rfl, rfl⟩
end Go.Proofs.YtbeophjdiddomaaGreatDoor

/- The plans, in plain Lean: no program in sight. -/
namespace Go.Proofs.YtbeophjdiddomaaGreatDoor

/-! ### Orders of the same houses -/
theorem perm_of_sub : ∀ {l m : List Int}, l.Nodup → (∀ n, n ∈ l → n ∈ m) → l.length = m.length → l.Perm m
  | [], m, _, _, h => by
    have : m = [] := List.length_eq_zero_iff.1 h.symm
    rw [this]
  | a :: t, m, hd, hs, hl => by
    have ha : a ∈ m := hs a (by simp)
    have hp := List.perm_cons_erase ha
    have ht : t.Perm (m.erase a) := by
      refine perm_of_sub (List.nodup_cons.1 hd).2 (fun n hn => ?_) (by rw [List.length_erase_of_mem ha]; simp at hl; omega)
      have hne : n ≠ a := fun e => (List.nodup_cons.1 hd).1 (e ▸ hn)
      exact (List.mem_erase_of_ne hne).2 (hs n (by simp [hn]))
    exact (ht.cons a).trans hp.symm
theorem sum_perm {l m : List Int} (h : l.Perm m) : l.sum = m.sum := by
  induction h with
  | nil => rfl
  | cons x _ ih => simp [ih]
  | swap x y l => simp; omega
  | trans _ _ h1 h2 => rw [h1, h2]
theorem loadOf_perm {c : Roads} {l m : List Int} (h : l.Perm m) : loadOf c l = loadOf c m := sum_perm (h.map _)
theorem ordersOf_perm {hs l : List Int} (h : l ∈ ordersOf hs) : l.Perm hs := by
  have h1 := ordersFrom_mem h (by simp) (by simp)
  exact perm_of_sub h1.2.1 h1.1 (by rw [h1.2.2]; simp)
theorem ordersFrom_self {hs : List Int} (hd : hs.Nodup) : ∀ f, f ≤ hs.length → hs ∈ ordersFrom hs f (hs.take (hs.length - f))
  | 0, _ => by simp [ordersFrom]
  | f + 1, hf => by
    simp only [ordersFrom, List.mem_flatMap]
    have hi : hs.length - (f + 1) < hs.length := by omega
    refine ⟨hs[hs.length - (f + 1)], List.getElem_mem hi, ?_⟩
    have hn : hs[hs.length - (f + 1)] ∉ hs.take (hs.length - (f + 1)) := by
      intro hm
      obtain ⟨j, hj, he⟩ := List.mem_take_iff_getElem.1 hm
      have hlt : j < hs.length := by omega
      exact List.pairwise_iff_getElem.1 hd j _ hlt hi (by omega) he
    rw [if_neg hn]
    have := ordersFrom_self hd f (by omega)
    rwa [show hs.take (hs.length - (f + 1)) ++ [hs[hs.length - (f + 1)]] = hs.take (hs.length - f) by
      rw [show hs.length - f = hs.length - (f + 1) + 1 by omega, List.take_add_one, List.getElem?_eq_getElem hi]; rfl]
theorem ordersOf_self {hs : List Int} (hd : hs.Nodup) : hs ∈ ordersOf hs := by
  have := ordersFrom_self hd hs.length (Nat.le_refl _)
  simpa [ordersOf] using this
theorem firstBest_some {α : Type} (lt : α → α → Bool) : ∀ {xs : List α} (acc : Option α), (xs ≠ [] ∨ acc ≠ none) → ∃ x, xs.foldl (stepBest lt) acc = some x ∧ (x ∈ xs ∨ acc = some x)
  | [], acc, h => by
    cases acc with
    | none => simp at h
    | some x => exact ⟨x, rfl, .inr rfl⟩
  | y :: xs, acc, h => by
    have hs : ∃ z, stepBest lt acc y = some z ∧ (z = y ∨ acc = some z) := by
      cases acc with
      | none => exact ⟨y, rfl, .inl rfl⟩
      | some a => simp only [stepBest]; split; exact ⟨y, rfl, .inl rfl⟩; exact ⟨a, rfl, .inr rfl⟩
    obtain ⟨z, hz, hz'⟩ := hs
    rw [List.foldl_cons, hz]
    obtain ⟨x, hx, hm⟩ := firstBest_some lt (xs := xs) (some z) (.inr (by simp))
    refine ⟨x, hx, ?_⟩
    rcases hm with hm | hm
    · exact .inl (by simp [hm])
    · cases hm
      rcases hz' with rfl | h
      · exact .inl (by simp)
      · exact .inr h
theorem firstBest_mem {α : Type} (lt : α → α → Bool) {xs : List α} (h : xs ≠ []) : ∃ x, firstBest lt xs = some x ∧ x ∈ xs := by
  obtain ⟨x, hx, hm⟩ := firstBest_some lt (xs := xs) none (.inl h)
  exact ⟨x, hx, hm.resolve_right (by simp)⟩
def tourOf (c : Roads) (hs : List Int) : List Int := (bestTour c hs).getD []
theorem bestTour_some {c : Roads} {hs : List Int} (hd : hs.Nodup) : bestTour c hs = some (tourOf c hs) ∧ tourOf c hs ∈ ordersOf hs := by
  obtain ⟨x, hx, hm⟩ := firstBest_mem (shorterB c) (List.ne_nil_of_mem (ordersOf_self hd))
  have : bestTour c hs = some x := hx
  unfold tourOf
  rw [this]; exact ⟨rfl, hm⟩

/-! ### The parts -/
structure GoodPart (c : Roads) (m : Nat) (l : List Int) : Prop where
  ne : l ≠ []
  up : l.Pairwise (· < ·)
  rng : ∀ n, n ∈ l → 1 ≤ n ∧ n ≤ m
  len : l.length ≤ m
  load : loadOf c l ≤ c.bears
theorem GoodPart.nodup {c : Roads} {m : Nat} {l : List Int} (h : GoodPart c m l) : l.Nodup := h.up.imp (fun h e => by omega)
theorem GoodPart.mono {c : Roads} {m n : Nat} {l : List Int} (h : GoodPart c m l) (hm : m ≤ n) : GoodPart c n l :=
  ⟨h.ne, h.up, fun x hx => by have := h.rng x hx; omega, Nat.le_trans h.len hm, h.load⟩
theorem mem_nextAt {now : List (List Int)} {i : Nat} {h : Int} {l : List Int} (hl : l ∈ nextAt now i h) : l ∈ now ∨ l = now.getD i [] ++ [h] := by
  unfold nextAt at hl
  split at hl
  · rcases List.mem_or_eq_of_mem_set hl with h | h
    · exact .inl h
    · exact .inr h
  · rename_i hi
    rcases List.mem_append.1 hl with h | h
    · exact .inl h
    · refine .inr ?_
      simp at h
      simp [List.getD, Nat.not_lt.1 hi, h]
theorem GoodPart.next {c : Roads} {m : Nat} {now : List (List Int)} {i : Nat} (hg : ∀ l, l ∈ now → GoodPart c m l) (hi : i ≤ now.length) (hv : ¬ c.bears < loadOf c ((nextAt now i (m + 1)).getD i [])) :
    ∀ l, l ∈ nextAt now i (m + 1) → GoodPart c (m + 1) l := by
  intro l hl
  rcases mem_nextAt hl with h | rfl
  · exact (hg l h).mono (by omega)
  · rw [nextAt_getD hi] at hv
    have hgd : now.getD i [] = [] ∨ GoodPart c m (now.getD i []) := by
      by_cases hlt : i < now.length
      · rw [List.getD_eq_getElem?_getD, List.getElem?_eq_getElem hlt]
        exact .inr (hg _ (List.getElem_mem hlt))
      · left; simp [List.getD, Nat.not_lt.1 hlt]
    refine ⟨by simp, ?_, ?_, ?_, by omega⟩
    · rcases hgd with h | h
      · rw [h]; simp
      · rw [List.pairwise_append]
        refine ⟨h.up, by simp, fun a ha b hb => ?_⟩
        simp at hb; have := h.rng a ha; omega
    · intro n hn
      rcases List.mem_append.1 hn with h | h
      · rcases hgd with h' | h'
        · rw [h'] at h; simp at h
        · have := h'.rng n h; omega
      · simp at h; omega
    · rcases hgd with h | h
      · rw [h]; simp
      · have := h.len; rw [List.length_append, List.length_singleton]; omega
theorem nextAt_length {now : List (List Int)} {i : Nat} {h : Int} : (nextAt now i h).length ≤ now.length + 1 ∧ 1 ≤ (nextAt now i h).length := by
  unfold nextAt
  split
  · simp; omega
  · simp
structure GoodParts (c : Roads) (x : List (List Int)) : Prop where
  pos : 1 ≤ x.length
  len : x.length ≤ c.loads.length
  each : ∀ l, l ∈ x → GoodPart c c.loads.length l
theorem partsFrom_good {c : Roads} : ∀ (f : Nat) (now : List (List Int)) (m : Nat), m + f = c.loads.length → now.length ≤ m → (1 ≤ f ∨ 1 ≤ now.length) → (∀ l, l ∈ now → GoodPart c m l) →
    ∀ x, x ∈ partsFrom c f now ((m : Int) + 1) → GoodParts c x
  | 0, now, m, hm, hl, hp, hg, x, hx => by
    simp only [partsFrom, List.mem_singleton] at hx; subst hx
    rw [Nat.add_zero] at hm; subst hm
    exact ⟨by omega, hl, hg⟩
  | f + 1, now, m, hm, hl, hp, hg, x, hx => by
    simp only [partsFrom, List.mem_flatMap, List.mem_range] at hx
    obtain ⟨i, hi, hx⟩ := hx
    split at hx
    · simp at hx
    · rename_i hv
      have hn := @nextAt_length now i ((m : Int) + 1)
      exact partsFrom_good f _ (m + 1) (by omega) (by omega) (.inr hn.2) (GoodPart.next hg (by omega) hv) x (by simpa using hx)
theorem partsOf_good {c : Roads} (hn : 1 ≤ c.loads.length) {x : List (List Int)} (hx : x ∈ partsOf c) : GoodParts c x :=
  partsFrom_good c.loads.length [] 0 (by omega) (by simp) (.inl hn) (by simp) x (by simpa [partsOf] using hx)

/-! ### Plans -/
def leL (a b : List Int) : Bool := decide (cmpL a b ≤ 0)
def sortL (l : List (List Int)) : List (List Int) := l.mergeSort leL
def planOf (c : Roads) (x : List (List Int)) : List (List Int) := sortL (x.map (tourOf c))
def plansOf (c : Roads) : List (List (List Int)) := (partsOf c).map (planOf c)
def planLen (c : Roads) (x : List (List Int)) : Int := (x.map (lengthOf c)).sum
theorem planLen_perm {c : Roads} {x y : List (List Int)} (h : x.Perm y) : planLen c x = planLen c y := sum_perm (h.map _)
theorem cmpI_neg (a b : Int) : cmpI b a = -cmpI a b := by
  unfold cmpI
  by_cases h1 : a < b
  · rw [if_neg (by omega), if_pos h1, if_pos h1]; rfl
  · by_cases h2 : b < a
    · rw [if_pos h2, if_neg h1, if_pos h2]
    · rw [if_neg h2, if_neg h1, if_neg h1, if_neg h2]; rfl
theorem cmpI_vals (a b : Int) : (cmpI a b = -1 ∧ a < b) ∨ (cmpI a b = 0 ∧ a = b) ∨ (cmpI a b = 1 ∧ b < a) := by unfold cmpI; split; omega; split <;> omega
theorem cmpL_neg : ∀ (a b : List Int), cmpL b a = -cmpL a b
  | [], [] => rfl
  | [], _ :: _ => rfl
  | _ :: _, [] => rfl
  | a :: x, b :: y => by
    simp only [cmpL]
    have := cmpI_neg a b
    have ih := cmpL_neg x y
    rcases cmpI_vals a b with h | h | h
    · rw [if_neg (by omega), if_neg (by omega)]; omega
    · rw [if_pos (by omega), if_pos (by omega)]; exact ih
    · rw [if_neg (by omega), if_neg (by omega)]; omega
theorem cmpL_self : ∀ a : List Int, cmpL a a = 0
  | [] => rfl
  | a :: x => by
    have : cmpI a a = 0 := by unfold cmpI; split <;> omega
    simp only [cmpL, this, if_true]; exact cmpL_self x
theorem cmpL_eq : ∀ {a b : List Int}, cmpL a b = 0 → a = b
  | [], [], _ => rfl
  | [], _ :: _, h => by simp [cmpL] at h
  | _ :: _, [], h => by simp [cmpL] at h
  | a :: x, b :: y, h => by
    simp only [cmpL] at h
    rcases cmpI_vals a b with h1 | h1 | h1
    · rw [if_neg (by omega)] at h; omega
    · rw [if_pos h1.1] at h; rw [h1.2, cmpL_eq h]
    · rw [if_neg (by omega)] at h; omega
theorem cmpL_trans : ∀ {a b c : List Int}, cmpL a b ≤ 0 → cmpL b c ≤ 0 → cmpL a c ≤ 0
  | [], _, [], _, _ => by simp [cmpL]
  | [], _, _ :: _, _, _ => by simp [cmpL]
  | _ :: _, [], _, h, _ => by simp [cmpL] at h
  | _ :: _, _ :: _, [], _, h => by simp [cmpL] at h
  | a :: x, b :: y, c :: z, h, k => by
    simp only [cmpL] at h k ⊢
    rcases cmpI_vals a b with h1 | h1 | h1 <;> rcases cmpI_vals b c with h2 | h2 | h2 <;> rcases cmpI_vals a c with h3 | h3 | h3 <;> try omega
    all_goals (first
      | (rw [if_pos h1.1] at h; rw [if_pos h2.1] at k; rw [if_pos h3.1]; exact cmpL_trans h k)
      | (rw [if_neg (by omega)]; omega)
      | (rw [if_neg (by omega)] at h; omega)
      | (rw [if_neg (by omega)] at k; omega))
theorem leL_trans (a b c : List Int) : leL a b = true → leL b c = true → leL a c = true := by
  simp only [leL, decide_eq_true_eq]; exact cmpL_trans
theorem leL_total (a b : List Int) : (leL a b || leL b a) = true := by
  have := cmpL_neg a b
  simp only [leL, Bool.or_eq_true, decide_eq_true_eq]; omega
theorem leL_anti (a b : List Int) (h : leL a b = true) (k : leL b a = true) : a = b := by
  have := cmpL_neg a b
  simp only [leL, decide_eq_true_eq] at h k; exact cmpL_eq (by omega)
theorem sortL_perm (l : List (List Int)) : (sortL l).Perm l := List.mergeSort_perm l leL
theorem sortL_eq {l m : List (List Int)} (hp : m.Perm l) (hs : m.Pairwise fun a b => leL a b = true) : m = sortL l :=
  List.Perm.eq_of_pairwise (le := fun a b => leL a b = true) (fun a b _ _ h k => leL_anti a b h k) hs (List.pairwise_mergeSort leL_trans leL_total l) (hp.trans (sortL_perm l).symm)
end Go.Proofs.YtbeophjdiddomaaGreatDoor

/- slices.SortFunc at lists of integers. -/
namespace Go.Proofs.YtbeophjdiddomaaGreatDoor
open Go.Shelf Go.RowKit Go.Lib Go.Sort

theorem touch_sortWorld {α : Type} [Inhabited α] (enc : α → Value) (w : World) (g off m : Nat) (dk : Array α) (os : Array Obj) : Touch (· = g) w (sortWorld enc w g off m dk os) := by
  refine ⟨rfl, rfl, rfl, ?_, fun k o hk hn => ?_⟩
  · simp [sortWorld, grow, putRow, mapBlock, Sort.ahead]
  · have hlt := (Array.getElem?_eq_some_iff.1 hk).1
    simp only [sortWorld, grow, putRow, mapBlock, Sort.ahead]
    rw [Array.getElem?_append_left (by simpa using hlt), Array.getElem?_modify, if_neg (fun e => hn e.symm)]
    exact hk

/-- A slice value with the list that it reads as, in w, off the blocks of M. -/
abbrev RowOf (M : Nat → Prop) (w : World) : Type := { p : Value × List Int // IntsOff M w p.1 p.2 }
theorem rowsOf_exists {M : Nat → Prop} {w : World} : ∀ (vs : List Value) (ts : List (List Int)), vs.length = ts.length →
    (∀ (i : Nat) (x : Value) (xs : List Int), vs[i]? = some x → ts[i]? = some xs → IntsOff M w x xs) → ∃ l : List (RowOf M w), l.map (fun p => p.1.1) = vs ∧ l.map (fun p => p.1.2) = ts
  | [], [], _, _ => ⟨[], rfl, rfl⟩
  | [], _ :: _, h, _ => by simp at h
  | _ :: _, [], h, _ => by simp at h
  | v :: vs, t :: ts, h, h4 => by
    obtain ⟨l, h1, h2⟩ := rowsOf_exists vs ts (by simpa using h) (fun i x xs hx hxs => h4 (i + 1) x xs (by simpa using hx) (by simpa using hxs))
    exact ⟨⟨(v, t), h4 0 v t rfl rfl⟩ :: l, by simp [h1], by simp [h2]⟩
instance (M : Nat → Prop) (w : World) : Inhabited (RowOf M w) := ⟨⟨(.slice none 0 0, []), IntsOff.nil M w⟩⟩
def rowV {M : Nat → Prop} {w : World} (p : RowOf M w) : Value := p.1.1
def rowC {M : Nat → Prop} {w : World} (p q : RowOf M w) : Int := cmpL p.1.2 q.1.2
theorem rowV_one (M : Nat → Prop) (w : World) : OneCell (rowV (M := M) (w := w)) := fun p => by
  obtain ⟨a, c, hv, _⟩ := p.2.1.open
  unfold rowV; rw [hv]; rfl
theorem swo_rowC (M : Nat → Prop) (w : World) : SWO (ltOf (rowC (M := M) (w := w))) where
  irrefl x := by simp [ltOf, rowC, cmpL_self]
  trans x y z h1 h2 := by
    have k1 : cmpL x.1.2 y.1.2 < 0 := of_decide_eq_true h1
    have k2 : cmpL y.1.2 z.1.2 < 0 := of_decide_eq_true h2
    have a := cmpL_trans (a := x.1.2) (b := y.1.2) (c := z.1.2) (by omega) (by omega)
    have b := cmpL_trans (a := z.1.2) (b := x.1.2) (c := y.1.2)
    have c1 := cmpL_neg x.1.2 y.1.2
    have c2 := cmpL_neg y.1.2 z.1.2
    have c3 := cmpL_neg x.1.2 z.1.2
    refine decide_eq_true (show cmpL x.1.2 z.1.2 < 0 from ?_)
    have h0 : cmpL x.1.2 z.1.2 ≠ 0 := fun h => by have := b (by omega) (by omega); omega
    omega
  ntrans x y z h1 h2 := by
    have k1 : ¬ cmpL x.1.2 y.1.2 < 0 := of_decide_eq_false h1
    have k2 : ¬ cmpL y.1.2 z.1.2 < 0 := of_decide_eq_false h2
    have c1 := cmpL_neg x.1.2 y.1.2
    have c2 := cmpL_neg y.1.2 z.1.2
    have c3 := cmpL_neg x.1.2 z.1.2
    have := cmpL_trans (a := z.1.2) (b := y.1.2) (c := x.1.2) (by omega) (by omega)
    exact decide_eq_false (show ¬ cmpL x.1.2 z.1.2 < 0 by omega)
theorem enters_plans11 : ∀ args w, (callFunc 104 args).run Tryz.prog w = .ok (.enter 104 args) w := enters_of Tryz.func104 (by kernel_rfl) rfl

theorem sortRows_any (ts : List (List Int)) (B base g cap : Nat) (vs : List Value) (w : World) (hown : w.ownsRow base 33 1 (.slice (some ⟨g, 0, none⟩) vs.length cap) vs.length vs) (hlen : vs.length = ts.length)
    (h4 : ∀ (i : Nat) (x : Value) (xs : List Int), vs[i]? = some x → ts[i]? = some xs → IntsOff (fun i => i = g ∨ i < B) w x xs) (h12 : vs.length ≤ 1000) (hgB : B ≤ g) (hgw : g < w.heap.size) :
    Calls Tryz.prog 103 #[.slice (some ⟨g, 0, none⟩) vs.length cap, .func (.func 104) #[] #[]] w fun e w' =>
      e = .returned (.tuple #[]) ∧ Touch (· = g) w w' ∧ RowsOff (· < B) w' (.slice (some ⟨g, 0, none⟩) vs.length cap) (sortL ts) := by
  obtain ⟨l, hl1, hl2⟩ := rowsOf_exists vs ts hlen h4
  have hll : l.length = vs.length := by rw [← hl1]; simp
  have hH : Holds rowV w g 0 l.toArray := fun j hj => by
    have hj' : j < vs.length := by simpa [hll] using hj
    rw [Nat.zero_add]
    refine ⟨?_, hown.frozenAt j⟩
    rw [hown.cellAt j (by omega)]
    have hjl : j < l.length := by omega
    rw [getElem!_pos l.toArray j hj, ← hl1, List.getElem?_map, List.getElem?_eq_getElem hjl]
    rfl
  have hcmp : CmpReads Tryz.prog 104 #[] rowV rowC g 0 l.toArray.size w := fun m os dk _ x y => by
    have hT := touch_sortWorld (rowV (M := fun i => i = g ∨ i < B) (w := w)) w g 0 m dk os
    refine (plans11_any x.1.1 y.1.1 x.1.2 y.1.2 _ (x.2.touch (hT.mono (fun i hi => .inl hi))).1 (y.2.touch (hT.mono (fun i hi => .inl hi))).1).mono ?_
    rintro e w' ⟨rfl, rfl⟩
    exact ⟨rfl, 0, rfl⟩
  have hcon := Any.slices_SortFunc Tryz.sortRows rowV (rowV_one _ _) rowC (swo_rowC _ _) 104 #[] g 0 cap l.toArray w enters_plans11 hcmp.lays hH hgw (by simp; omega)
  rw [show l.toArray.size = vs.length by simpa using hll] at hcon
  refine hcon.mono ?_
  rintro e w' ⟨rfl, d', n, os, hp, hs, rfl⟩
  refine ⟨rfl, touch_sortWorld _ _ _ _ _ _ _, ?_⟩
  have hd : d'.size = vs.length := by rw [hp.1]; simpa using hll
  have hpl : d'.toList.Perm l := by
    have := hp.2.2
    have e1 : d'.extract 0 vs.length = d' := by rw [← hd, Array.extract_size]
    have e2 : l.toArray.extract 0 vs.length = l.toArray := by rw [show vs.length = l.toArray.size by simp [hll], Array.extract_size]
    rw [e1, e2] at this
    exact this
  have hT := touch_sortWorld (rowV (M := fun i => i = g ∨ i < B) (w := w)) w g 0 n d' os
  have hsort : d'.toList.map (fun p => p.1.2) = sortL ts := by
    refine sortL_eq (by rw [← hl2]; exact hpl.map _) ?_
    rw [List.pairwise_iff_getElem]
    intro i j hi hj hij
    simp only [List.length_map, Array.length_toList] at hi hj
    have := hs i j (Nat.zero_le _) hij (by omega)
    simp only [ltOf, rowC, decide_eq_false_iff_not, getElem!_pos d' i hi, getElem!_pos d' j hj] at this
    have c1 := cmpL_neg d'[j].1.2 d'[i].1.2
    simp only [List.getElem_map, Array.getElem_toList, leL, decide_eq_true_eq]
    omega
  have hslen : (sortL ts).length = vs.length := by rw [(sortL_perm ts).length_eq, hlen]
  have hHw := holds_sortWorld (rowV (M := fun i => i = g ∨ i < B) (w := w)) w g 0 n l.toArray d' os hgw hH (by rw [hd]; simp [hll])
  obtain ⟨a, c, hv, r1, r2, r0, r3⟩ := RowAt.of_owns hown
  cases hv
  refine ⟨d'.toList.map (fun p => p.1.1), by simp [hd, hslen], ⟨_, cap, by rw [hslen], by rw [hslen]; exact r1, r2, (fun h => by cases h), fun j u hj => ⟨g, 0, rfl, ?_⟩⟩, ?_, ?_⟩
  · have hjl : j < d'.size := by
      rcases Nat.lt_or_ge j d'.size with h | h
      · exact h
      · rw [List.getElem?_eq_none (by simpa using h)] at hj; cases hj
    rw [(hHw j hjl).1, getElem!_pos d' j hjl]
    simp [hjl] at hj
    rw [← hj]; rfl
  · intro a n c h; cases h; simp only; omega
  · intro i x xs hx hxs
    rw [← hsort] at hxs
    have hil : i < d'.size := by
      rcases Nat.lt_or_ge i d'.size with h | h
      · exact h
      · rw [List.getElem?_eq_none (by simpa using h)] at hx; cases hx
    simp [hil] at hx hxs
    rw [← hx, ← hxs]
    exact (d'[i].2.touch (hT.mono (fun i hi => .inl hi))).less (fun i hi => .inr hi)
end Go.Proofs.YtbeophjdiddomaaGreatDoor

/- append of one element, and where the new slice lies. -/
namespace Go.Proofs.YtbeophjdiddomaaGreatDoor
open Go.RowKit

theorem owns_head {W : World} {base : Nat} {e : TypeId} {size : Nat} {v : Value} {k : Nat} {xs : List Value} (h : W.ownsRow base e size v (k + 1) xs) : ∃ g cap, v = .slice (some ⟨g, 0, none⟩) (k + 1) cap ∧ v.ownBlock = some g ∧ g < W.heap.size := by
  obtain ⟨g, cap, rfl⟩ := owns_succ h
  exact ⟨g, cap, rfl, rfl, (World.ownsRow.lt h g rfl).2⟩

theorem wpList_push_at {P : Program} {w : World} {t e size bytes : Nat} {z : Value} (E : Elem P t e size bytes z) {ops : Array Oper} {rest : List Oper} {o : Oper} {a : Act} {Q : Exit → Act → World → Prop} (hg : o.guard = none) (s x : Operand)
    (hop : o.op = Op.call { callee := Callee.builtin Builtin.append, args := #[s, x], argTypes := #[t, t] }) (base : Nat) {v : Value} {k : Nat} {xs : List Value} (hs : a.eval s = v) (hown : w.ownsRow base e size v k xs)
    {cs : Array Value} {e' : TypeId} {m : Nat} (hx : a.eval x = .slice (some ⟨m, 0, none⟩) 1 1) (hm : m = w.heap.size) (hl : cs.size = size) (h1 : ∀ u ∈ cs.toList, u.oneCell' = true)
    (hK : ∀ g cap w', w'.ownsRow base e size (.slice (some ⟨g, 0, none⟩) (k + 1) cap) (k + 1) (xs ++ cs.toList) → (∀ a0, Ext a0 w → a0.heap.size ≤ base → Ext a0 w') → (w.alloc (.cells cs e')).grownBy w' v.ownBlock → (v.ownBlock = some g ∨ g = w.heap.size + 1) → wpList P ops Q rest (a.put o.dst (.slice (some ⟨g, 0, none⟩) (k + 1) cap)) w') (b1 : k + 1 ≤ maxLen) (b2 : (k + 1) * bytes ≤ 140737488355328) (b3 : base ≤ w.heap.size) :
    wpList P ops Q (o :: rest) a (w.alloc (.cells cs e')) := by
  subst hm
  obtain ⟨i, hi, hz, hsz, hb⟩ := E.info
  refine wpList_append_own_at _ hg s x t hop base e i z size bytes E.slice hi hz hsz hb E.zero E.pos v k xs hs (hown.alloc _) ⟨w.heap.size, 0, none⟩ 1 1 cs.toList hx (by simp [hl]) ?_ h1 b1 b2 (by simp; omega) ?_
  · intro j u hj
    obtain ⟨a1, c, hv, _, _, _, h3⟩ := RowAt.new1 w cs e'
    cases hv
    obtain ⟨b, o1, ha, hc⟩ := h3 j u hj
    cases ha
    rcases Nat.eq_zero_or_pos j with rfl | h0
    · simpa [Addr.add] using hc
    · simpa [Addr.add, Nat.ne_of_gt h0] using hc
  · intro v' w' ho hgr _ hloc
    obtain ⟨g, cap, rfl⟩ := owns_succ ho
    refine hK g cap w' ho (fun a0 ha hb => (ha.alloc _).grown hgr (fun k hk => by have := owns_block hown k hk; omega)) hgr ?_
    rcases hloc with h | h
    · exact .inl (h ▸ rfl)
    · right; have : some g = some (w.alloc (.cells cs e')).heap.size := h
      simpa using this

theorem wpListIn_push_at {F : Fence} {n : Nat} {P : Program} {w : World} {t e size bytes : Nat} {z : Value} (E : Elem P t e size bytes z) {ops : Array Oper} {rest : List Oper} {o : Oper} {a : Act} {Q : Exit → Act → World → Prop} (hg : o.guard = none) (s x : Operand)
    (hop : o.op = Op.call { callee := Callee.builtin Builtin.append, args := #[s, x], argTypes := #[t, t] }) (base : Nat) {v : Value} {k : Nat} {xs : List Value} (hs : a.eval s = v) (hown : w.ownsRow base e size v k xs)
    {cs : Array Value} {e' : TypeId} {m : Nat} (hx : a.eval x = .slice (some ⟨m, 0, none⟩) 1 1) (hm : m = w.heap.size) (hl : cs.size = size) (h1 : ∀ u ∈ cs.toList, u.oneCell' = true)
    (hK : ∀ g cap w', w'.ownsRow base e size (.slice (some ⟨g, 0, none⟩) (k + 1) cap) (k + 1) (xs ++ cs.toList) → (∀ a0, Ext a0 w → a0.heap.size ≤ base → Ext a0 w') → (w.alloc (.cells cs e')).grownBy w' v.ownBlock → (v.ownBlock = some g ∨ g = w.heap.size + 1) → wpListIn F n P ops Q rest (a.put o.dst (.slice (some ⟨g, 0, none⟩) (k + 1) cap)) w') (b1 : k + 1 ≤ maxLen) (b2 : (k + 1) * bytes ≤ 140737488355328) (b3 : base ≤ w.heap.size) :
    wpListIn F n P ops Q (o :: rest) a (w.alloc (.cells cs e')) := by
  subst hm
  obtain ⟨i, hi, hz, hsz, hb⟩ := E.info
  refine wpListIn_append_own_at _ hg s x t hop base e i z size bytes E.slice hi hz hsz hb E.zero E.pos v k xs hs (hown.alloc _) ⟨w.heap.size, 0, none⟩ 1 1 cs.toList hx (by simp [hl]) ?_ h1 b1 b2 (by simp; omega) ?_
  · intro j u hj
    obtain ⟨a1, c, hv, _, _, _, h3⟩ := RowAt.new1 w cs e'
    cases hv
    obtain ⟨b, o1, ha, hc⟩ := h3 j u hj
    cases ha
    rcases Nat.eq_zero_or_pos j with rfl | h0
    · simpa [Addr.add] using hc
    · simpa [Addr.add, Nat.ne_of_gt h0] using hc
  · intro v' w' ho hgr _ hloc
    obtain ⟨g, cap, rfl⟩ := owns_succ ho
    refine hK g cap w' ho (fun a0 ha hb => (ha.alloc _).grown hgr (fun k hk => by have := owns_block hown k hk; omega)) hgr ?_
    rcases hloc with h | h
    · exact .inl (h ▸ rfl)
    · right; have : some g = some (w.alloc (.cells cs e')).heap.size := h
      simpa using this
end Go.Proofs.YtbeophjdiddomaaGreatDoor
