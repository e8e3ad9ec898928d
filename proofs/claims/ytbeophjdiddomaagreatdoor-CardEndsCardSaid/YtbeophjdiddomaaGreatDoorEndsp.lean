/- Ends that are reached, in plain Lean: an odometer tries all numbers that the houses can have counted; what it gathers are the ends of all truths. -/
import Derived.Test.YtbeophjdiddomaaGreatDoorTruep
namespace Go.Proofs.YtbeophjdiddomaaGreatDoor
open Go.RowKit

/-! ### Which numbers are tried -/
def cntS (said miss most : Int) : Int × Int := (max 0 (said - miss), min most (said + miss))
def spanS (r : Round) (h : House) : List (Int × Int) := [cntS h.full h.miss h.cards, cntS h.loose h.miss (r.per - 1)]
def spansE (r : Round) : List (Int × Int) := r.houses.flatMap (spanS r)
def wid (p : Int × Int) : Int := max 0 (p.2 - p.1 + 1)
def manyUp (m : Int) (S : List (Int × Int)) : Int := S.foldl (fun m p => m * wid p) m
theorem manyUp_cons (m : Int) (p : Int × Int) (S : List (Int × Int)) : manyUp m (p :: S) = manyUp (m * wid p) S := rfl
theorem manyUp_snoc (m : Int) (S : List (Int × Int)) (p : Int × Int) : manyUp m (S ++ [p]) = manyUp m S * wid p := by unfold manyUp; rw [List.foldl_append]; rfl
theorem spansE_length (r : Round) : (spansE r).length = 2 * r.houses.length := by
  unfold spansE
  induction r.houses with
  | nil => rfl
  | cons x l ih => rw [List.flatMap_cons, List.length_append, ih, List.length_cons]; show 2 + _ = _; omega
theorem spansE_take (r : Round) (k : Nat) : (r.houses.take k).flatMap (spanS r) = (spansE r).take (2 * k) := by
  unfold spansE
  induction r.houses generalizing k with
  | nil => simp
  | cons x l ih =>
    cases k with
    | zero => simp
    | succ k =>
      rw [List.take_succ_cons, List.flatMap_cons, List.flatMap_cons, ih k, show 2 * (k + 1) = 2 + 2 * k by omega, List.take_append]
      have : (spanS r x).length = 2 := rfl
      rw [this, show 2 + 2 * k - 2 = 2 * k by omega, List.take_of_length_le (l := spanS r x) (by rw [this]; omega)]
theorem spansE_even {r : Round} {i : Nat} {h : House} (hi : r.houses[i]? = some h) : (spansE r)[2 * i]? = some (cntS h.full h.miss h.cards) := by
  have := flatMap_at (spanS r) 2 (fun _ => rfl) r.houses i 0 h hi (by omega)
  rw [Nat.mul_comm]; exact this
theorem spansE_odd {r : Round} {i : Nat} {h : House} (hi : r.houses[i]? = some h) : (spansE r)[2 * i + 1]? = some (cntS h.loose h.miss (r.per - 1)) := by
  have := flatMap_at (spanS r) 2 (fun _ => rfl) r.houses i 1 h hi (by omega)
  rw [Nat.mul_comm]; exact this
theorem wid_cnt (said miss most : Int) (h : 0 ≤ miss ∧ miss ≤ 3) : 0 ≤ wid (cntS said miss most) ∧ wid (cntS said miss most) ≤ 7 := by unfold wid cntS; simp only; omega
theorem mem_spansE {r : Round} (hB : RoundB r) {p : Int × Int} (h : p ∈ spansE r) : 0 ≤ wid p ∧ wid p ≤ 7 ∧ 0 ≤ p.1 ∧ p.1 ≤ 60 ∧ p.2 ≤ 60 ∧ -3 ≤ p.2 := by
  unfold spansE at h
  obtain ⟨x, hx, h⟩ := List.mem_flatMap.1 h
  have hb := badHouse_iff.1 (hB.hs x hx)
  have h1 := hB.p1; have h2 := hB.p2
  simp only [spanS, List.mem_cons, List.mem_nil_iff, or_false] at h
  rcases h with rfl | rfl
  · have := wid_cnt x.full x.miss x.cards hb.2.2.2.2.1
    refine ⟨this.1, this.2, ?_, ?_, ?_, ?_⟩ <;> (unfold cntS; simp only; omega)
  · have := wid_cnt x.loose x.miss (r.per - 1) hb.2.2.2.2.1
    refine ⟨this.1, this.2, ?_, ?_, ?_, ?_⟩ <;> (unfold cntS; simp only; omega)
theorem manyUp_bd : ∀ (S : List (Int × Int)) (m : Int), 0 ≤ m → (∀ p, p ∈ S → 0 ≤ wid p ∧ wid p ≤ 7) → 0 ≤ manyUp m S ∧ manyUp m S ≤ m * 7 ^ S.length
  | [], m, h, _ => by simp [manyUp, h]
  | p :: S, m, h, hS => by
    have hp := hS p (by simp)
    have h1 : 0 ≤ m * wid p := Int.mul_nonneg h hp.1
    obtain ⟨h2, h3⟩ := manyUp_bd S (m * wid p) h1 (fun q hq => hS q (by simp [hq]))
    rw [manyUp_cons]
    refine ⟨h2, Int.le_trans h3 ?_⟩
    rw [List.length_cons, Int.pow_succ, Int.mul_comm (7 ^ S.length) 7, ← Int.mul_assoc]
    exact Int.mul_le_mul_of_nonneg_right (Int.mul_le_mul_of_nonneg_left hp.2 h) (Int.pow_nonneg (by decide))
theorem pow7_le {k : Nat} (h : k ≤ 8) : (7 : Int) ^ k ≤ 5764801 := by
  rcases (show k = 0 ∨ k = 1 ∨ k = 2 ∨ k = 3 ∨ k = 4 ∨ k = 5 ∨ k = 6 ∨ k = 7 ∨ k = 8 by omega) with rfl | rfl | rfl | rfl | rfl | rfl | rfl | rfl | rfl <;> decide
theorem many_bd {r : Round} (hB : RoundB r) (k : Nat) : 0 ≤ manyUp (r.hi - r.lo + 1) ((spansE r).take k) ∧ manyUp (r.hi - r.lo + 1) ((spansE r).take k) ≤ 5 * 5764801 := by
  have h2 := hB.l2; have h4 := hB.l4; have h5 := hB.h2
  obtain ⟨h6, h7⟩ := manyUp_bd ((spansE r).take k) (r.hi - r.lo + 1) (by omega) (fun p hp => by have := mem_spansE hB (List.mem_of_mem_take hp); exact ⟨this.1, this.2.1⟩)
  have h8 : (7 : Int) ^ ((spansE r).take k).length ≤ 5764801 := pow7_le (by rw [List.length_take, spansE_length]; omega)
  refine ⟨h6, Int.le_trans h7 ?_⟩
  have h9 : 0 ≤ (7 : Int) ^ ((spansE r).take k).length := Int.pow_nonneg (by decide)
  refine Int.le_trans (Int.mul_le_mul_of_nonneg_right (show r.hi - r.lo + 1 ≤ 5 by omega) h9) ?_
  omega
theorem many_pos : ∀ {S : List (Int × Int)} {m : Int}, 0 ≤ m → 0 < manyUp m S → 0 < m ∧ ∀ p, p ∈ S → p.1 ≤ p.2
  | [], m, _, h => ⟨by simpa [manyUp] using h, fun p hp => by cases hp⟩
  | p :: S, m, h0, h => by
    rw [manyUp_cons] at h
    have hw : 0 ≤ wid p := by unfold wid; omega
    obtain ⟨h1, h2⟩ := many_pos (Int.mul_nonneg h0 hw) h
    have hm : m ≠ 0 := fun e => by rw [e, Int.zero_mul] at h1; omega
    have hw2 : wid p ≠ 0 := fun e => by rw [e, Int.mul_zero] at h1; omega
    refine ⟨by omega, fun q hq => ?_⟩
    rcases List.mem_cons.1 hq with rfl | hq
    · unfold wid at hw2; omega
    · exact h2 q hq
theorem many_of : ∀ {S : List (Int × Int)} {m : Int}, 0 < m → (∀ p, p ∈ S → p.1 ≤ p.2) → 0 < manyUp m S
  | [], m, h, _ => by simpa [manyUp] using h
  | p :: S, m, h0, h => by
    rw [manyUp_cons]
    refine many_of (Int.mul_pos h0 ?_) (fun q hq => h q (by simp [hq]))
    have := h p (by simp)
    unfold wid; omega

/-! ### The odometer -/
def InBox (S : List (Int × Int)) (a : List Int) : Prop := a.length = S.length ∧ ∀ i, i < S.length → (S.getD i (0, 0)).1 ≤ a.getD i 0 ∧ a.getD i 0 ≤ (S.getD i (0, 0)).2
theorem inBox_cons {p : Int × Int} {S : List (Int × Int)} {x : Int} {a : List Int} : InBox (p :: S) (x :: a) ↔ (p.1 ≤ x ∧ x ≤ p.2) ∧ InBox S a := by
  unfold InBox
  constructor
  · rintro ⟨h1, h2⟩
    refine ⟨by simpa using h2 0 (by simp), by simpa using h1, fun i hi => ?_⟩
    have := h2 (i + 1) (by simp; omega)
    simpa using this
  · rintro ⟨h0, h1, h2⟩
    refine ⟨by simp [h1], fun i hi => ?_⟩
    cases i with
    | zero => simpa using h0
    | succ i => simpa using h2 i (by simpa using hi)
theorem inBox_nil {a : List Int} : InBox [] a ↔ a = [] := by
  unfold InBox
  constructor
  · rintro ⟨h, _⟩; exact List.length_eq_zero_iff.1 (by simpa using h)
  · rintro rfl; exact ⟨rfl, fun i hi => by simp at hi⟩
theorem inBox_split {p : Int × Int} {S : List (Int × Int)} {a : List Int} (h : InBox (p :: S) a) : ∃ x t, a = x :: t := by
  cases a with
  | nil => have := h.1; simp at this
  | cons x t => exact ⟨x, t, rfl⟩
def tot : List (Int × Int) → Nat
  | [] => 1
  | p :: S => (p.2 - p.1 + 1).toNat * tot S
def rankE : List (Int × Int) → List Int → Nat
  | p :: S, x :: a => (x - p.1).toNat * tot S + rankE S a
  | _, _ => 0
theorem tot_cons (p : Int × Int) (S : List (Int × Int)) : tot (p :: S) = (p.2 - p.1 + 1).toNat * tot S := rfl
theorem rank_cons (p : Int × Int) (S : List (Int × Int)) (x : Int) (a : List Int) : rankE (p :: S) (x :: a) = (x - p.1).toNat * tot S + rankE S a := rfl
def lowsE (S : List (Int × Int)) : List Int := S.map (·.1)
theorem rank_lt : ∀ {S : List (Int × Int)} {a : List Int}, InBox S a → rankE S a < tot S
  | [], a, h => by rw [inBox_nil.1 h]; simp [rankE, tot]
  | p :: S, a, h => by
    obtain ⟨x, t, rfl⟩ := inBox_split h
    obtain ⟨⟨h1, h2⟩, h3⟩ := inBox_cons.1 h
    have h4 := rank_lt h3
    rw [rank_cons, tot_cons]
    have h5 : ((x - p.1).toNat + 1) * tot S ≤ (p.2 - p.1 + 1).toNat * tot S := Nat.mul_le_mul_right _ (by omega)
    rw [Nat.add_mul, Nat.one_mul] at h5
    omega
theorem rank_inj : ∀ {S : List (Int × Int)} {a b : List Int}, InBox S a → InBox S b → rankE S a = rankE S b → a = b
  | [], a, b, h, k, _ => by rw [inBox_nil.1 h, inBox_nil.1 k]
  | p :: S, a, b, h, k, e => by
    obtain ⟨x, t, rfl⟩ := inBox_split h
    obtain ⟨y, u, rfl⟩ := inBox_split k
    obtain ⟨⟨h1, h2⟩, h3⟩ := inBox_cons.1 h
    obtain ⟨⟨k1, k2⟩, k3⟩ := inBox_cons.1 k
    have h4 := rank_lt h3
    have k4 := rank_lt k3
    rw [rank_cons, rank_cons] at e
    have hxy : x = y := by
      by_cases hlt : x < y
      · have h5 : ((x - p.1).toNat + 1) * tot S ≤ (y - p.1).toNat * tot S := Nat.mul_le_mul_right _ (by omega)
        rw [Nat.add_mul, Nat.one_mul] at h5
        omega
      · by_cases hgt : y < x
        · have h5 : ((y - p.1).toNat + 1) * tot S ≤ (x - p.1).toNat * tot S := Nat.mul_le_mul_right _ (by omega)
          rw [Nat.add_mul, Nat.one_mul] at h5
          omega
        · omega
    subst hxy
    rw [rank_inj h3 k3 (by omega)]
theorem lows_box : ∀ {S : List (Int × Int)}, (∀ p, p ∈ S → p.1 ≤ p.2) → InBox S (lowsE S) ∧ rankE S (lowsE S) = 0
  | [], _ => ⟨inBox_nil.2 rfl, rfl⟩
  | p :: S, h => by
    obtain ⟨h1, h2⟩ := lows_box (S := S) (fun q hq => h q (by simp [hq]))
    refine ⟨inBox_cons.2 ⟨⟨Int.le_refl _, h p (by simp)⟩, h1⟩, ?_⟩
    show (p.1 - p.1).toNat * tot S + rankE S (lowsE S) = 0
    rw [h2, Int.sub_self]; simp
theorem box_low {S : List (Int × Int)} {a : List Int} (h : InBox S a) : ∀ p, p ∈ S → p.1 ≤ p.2 := by
  intro p hp
  obtain ⟨i, hi⟩ := List.getElem?_of_mem hp
  have hl := (List.getElem?_eq_some_iff.1 hi).1
  have := h.2 i hl
  rw [List.getD_eq_getElem?_getD, hi, Option.getD_some] at this
  omega
theorem all_hi : ∀ {S : List (Int × Int)} {a : List Int}, InBox S a → (∀ j, j < S.length → (S.getD j (0, 0)).2 ≤ a.getD j 0) → rankE S a + 1 = tot S
  | [], a, h, _ => by rw [inBox_nil.1 h]; rfl
  | p :: S, a, h, hh => by
    obtain ⟨x, t, rfl⟩ := inBox_split h
    obtain ⟨⟨h1, h2⟩, h3⟩ := inBox_cons.1 h
    have h4 := all_hi h3 (fun j hj => by have := hh (j + 1) (by simp; omega); simpa using this)
    have h5 : p.2 ≤ x := by have := hh 0 (by simp); simpa using this
    rw [rank_cons, tot_cons]
    have : (p.2 - p.1 + 1).toNat = (x - p.1).toNat + 1 := by omega
    rw [this, Nat.add_mul, Nat.one_mul]
    omega
/-- The next numbers, if those behind the i-th are at their ends. -/
def nextAtE (S : List (Int × Int)) (a : List Int) (i : Nat) : List Int := a.take i ++ (a.getD i 0 + 1) :: (lowsE S).drop (i + 1)
theorem next_rank : ∀ {S : List (Int × Int)} {a : List Int} {i : Nat}, InBox S a → i < S.length → a.getD i 0 < (S.getD i (0, 0)).2 → (∀ j, i < j → j < S.length → (S.getD j (0, 0)).2 ≤ a.getD j 0) → InBox S (nextAtE S a i) ∧ rankE S (nextAtE S a i) = rankE S a + 1
  | [], a, i, _, hi, _, _ => by simp at hi
  | p :: S, a, 0, h, hi, hlt, hh => by
    obtain ⟨x, t, rfl⟩ := inBox_split h
    obtain ⟨⟨h1, h2⟩, h3⟩ := inBox_cons.1 h
    have h4 := all_hi h3 (fun j hj => by have := hh (j + 1) (by omega) (by simp; omega); simpa using this)
    obtain ⟨l1, l2⟩ := lows_box (box_low h3)
    have hlt' : x < p.2 := by simpa using hlt
    have e : nextAtE (p :: S) (x :: t) 0 = (x + 1) :: lowsE S := by simp [nextAtE, lowsE]
    rw [e]
    refine ⟨inBox_cons.2 ⟨⟨by omega, by omega⟩, l1⟩, ?_⟩
    rw [rank_cons, rank_cons, l2, show (x + 1 - p.1).toNat = (x - p.1).toNat + 1 by omega, Nat.add_mul, Nat.one_mul]
    omega
  | p :: S, a, i + 1, h, hi, hlt, hh => by
    obtain ⟨x, t, rfl⟩ := inBox_split h
    obtain ⟨⟨h1, h2⟩, h3⟩ := inBox_cons.1 h
    obtain ⟨k1, k2⟩ := next_rank (i := i) h3 (by simpa using hi) (by simpa using hlt) (fun j h1 h2 => by have := hh (j + 1) (by omega) (by simp; omega); simpa using this)
    have e : nextAtE (p :: S) (x :: t) (i + 1) = x :: nextAtE S t i := by simp [nextAtE, lowsE]
    rw [e]
    refine ⟨inBox_cons.2 ⟨⟨h1, h2⟩, k1⟩, ?_⟩
    rw [rank_cons, rank_cons, k2]; omega

/-! ### What the numbers say -/
def truthE (n : Nat) (w : Int) (a : List Int) : Truth := ⟨w, (List.range n).map fun i => a.getD (2 * i) 0, (List.range n).map fun i => a.getD (2 * i + 1) 0⟩
def valE (r : Round) (a : List Int) (i : Nat) : Int := nOf r (a.getD (2 * i) 0) (a.getD (2 * i + 1) 0)
def sumE (r : Round) (a : List Int) : Nat → Int
  | 0 => 0
  | k + 1 => sumE r a k + valE r a k
theorem truthE_at {n : Nat} {w : Int} {a : List Int} {i : Nat} (h : i < n) : (truthE n w a).full.getD i 0 = a.getD (2 * i) 0 ∧ (truthE n w a).loose.getD i 0 = a.getD (2 * i + 1) 0 := by
  constructor <;> simp [truthE, List.getD_eq_getElem?_getD, h]
theorem truthE_sum (r : Round) {n : Nat} (w : Int) (a : List Int) : ∀ k, k ≤ n → sumT r (truthE n w a) k = sumE r a k
  | 0, _ => rfl
  | k + 1, h => by
    unfold sumT sumE
    rw [truthE_sum r w a k (by omega), (truthE_at (by omega)).1, (truthE_at (by omega)).2]; rfl
theorem truthE_ok (r : Round) (w : Int) (a : List Int) : truthB r (truthE r.houses.length w a) = true := by simp [truthB, truthE]
/-- A truth of numbers that are tried. -/
def TriedE (r : Round) (a : List Int) (w : Int) : Prop := InBox (spansE r) a ∧ (r.lo ≤ w ∧ w ≤ r.hi) ∧ fitsB r (truthE r.houses.length w a) (-1) = true
theorem tried_pick {r : Round} {a : List Int} {w : Int} (h : TriedE r a w) : PickR r (-1) w (valE r a) (sumE r a r.houses.length) := by
  obtain ⟨⟨h1, h2, h3, h4⟩, -, -⟩ := fits_pick h.2.2
  rw [truthE_sum r w a _ (Nat.le_refl _)] at h2 h3 h4
  refine ⟨fun j hj => ?_, ?_, h3, h4⟩
  · have h9 := h1 j hj
    simp only [(truthE_at hj).1, (truthE_at hj).2] at h9
    exact h9
  · rw [h2]
    exact sumF_congr (fun j _ hj => by rw [(truthE_at (by omega)).1, (truthE_at (by omega)).2]; rfl)
theorem pick_tried {r : Round} (_hB : RoundB r) {b : Int} {f : Nat → Int} {s : Int} (hb : r.lo ≤ b) (hb2 : b ≤ r.hi) (h : PickR r (-1) b f s) : ∃ a, TriedE r a b ∧ (∀ i, i < r.houses.length → valE r a i = f i) ∧ sumE r a r.houses.length = s := by
  obtain ⟨h1, h2, h3, h4⟩ := h
  have key : ∀ i, i < r.houses.length → ∃ x : Int × Int, okB r b (r.houses.getD i noHouse) false x = true ∧ f i = nOf r x.1 x.2 := fun i hi => by
    obtain ⟨hh, e, x, hx, hf⟩ := h1 i hi
    have hg : r.houses.getD i noHouse = hh := by rw [List.getD_eq_getElem?_getD, e]; rfl
    have hd : decide ((i : Int) = -1) = false := by simp
    rw [hd] at hx
    exact ⟨x, by rw [hg]; exact (mem_ways_iff.1 hx).1, hf⟩
  have : Inhabited (Int × Int) := ⟨(0, 0)⟩
  obtain ⟨X, hX⟩ := Go.Deep.choose_lt key
  have hev : ∀ i, i < r.houses.length → ((List.range r.houses.length).flatMap fun i => [(X i).1, (X i).2]).getD (2 * i) 0 = (X i).1 := fun i hi => by
    have := flatMap_at (fun i => [(X i).1, (X i).2]) 2 (fun _ => rfl) (List.range r.houses.length) i 0 i (by simp [hi]) (by omega)
    rw [List.getD_eq_getElem?_getD, Nat.mul_comm, show i * 2 = i * 2 + 0 from rfl, this]; rfl
  have hod : ∀ i, i < r.houses.length → ((List.range r.houses.length).flatMap fun i => [(X i).1, (X i).2]).getD (2 * i + 1) 0 = (X i).2 := fun i hi => by
    have := flatMap_at (fun i => [(X i).1, (X i).2]) 2 (fun _ => rfl) (List.range r.houses.length) i 1 i (by simp [hi]) (by omega)
    rw [List.getD_eq_getElem?_getD, Nat.mul_comm, this]; rfl
  generalize hva : ((List.range r.houses.length).flatMap fun i => [(X i).1, (X i).2]) = a at hev hod
  have hlen : a.length = 2 * r.houses.length := by
    rw [← hva]
    generalize r.houses.length = n
    induction n with
    | zero => rfl
    | succ n ih => rw [List.range_succ, List.flatMap_append, List.length_append, ih]; show _ + 2 = _; omega
  have hval : ∀ i, i < r.houses.length → valE r a i = f i := fun i hi => by unfold valE; rw [hev i hi, hod i hi, (hX i hi).2]
  have hsum : ∀ k, k ≤ r.houses.length → sumE r a k = sumF f 0 k := fun k => by
    induction k with
    | zero => intro _; rfl
    | succ k ih =>
      intro hk
      unfold sumE sumF
      rw [ih (by omega), hval k (by omega), Nat.zero_add]
  refine ⟨a, ⟨⟨by rw [hlen, spansE_length], fun j hj => ?_⟩, ⟨hb, hb2⟩, ?_⟩, hval, by rw [hsum _ (Nat.le_refl _), ← h2]⟩
  · rw [spansE_length] at hj
    have hi : j / 2 < r.houses.length := by omega
    obtain ⟨ho, -⟩ := hX (j / 2) hi
    have hg : r.houses.getD (j / 2) noHouse = r.houses[j / 2] := by rw [List.getD_eq_getElem?_getD, List.getElem?_eq_getElem hi]; rfl
    rw [hg] at ho
    unfold okB canB countsB at ho
    simp only [Bool.and_eq_true, Bool.or_eq_true, Bool.false_eq_true, false_or, inB_iff] at ho
    rcases Nat.mod_two_eq_zero_or_one j with e | e
    · have ej : j = 2 * (j / 2) := by omega
      rw [ej, hev _ hi, List.getD_eq_getElem?_getD, spansE_even (List.getElem?_eq_getElem hi), Option.getD_some]
      unfold cntS; simp only; omega
    · have ej : j = 2 * (j / 2) + 1 := by omega
      rw [ej, hod _ hi, List.getD_eq_getElem?_getD, spansE_odd (List.getElem?_eq_getElem hi), Option.getD_some]
      unfold cntS; simp only; omega
  · unfold fitsB
    simp only [Bool.and_eq_true, inB_iff]
    refine ⟨⟨⟨hb, hb2⟩, ?_⟩, ?_⟩
    · unfold okUp
      rw [List.all_eq_true]
      intro i hi
      have hi := List.mem_range.1 hi
      unfold okT
      rw [(truthE_at hi).1, (truthE_at hi).2, hev i hi, hod i hi]
      have ho := (hX i hi).1
      unfold okB at ho
      simp only [Bool.and_eq_true, Bool.or_eq_true, Bool.false_eq_true, false_or] at ho ⊢
      exact ⟨ho.1, .inr ho.2⟩
    · rw [truthE_sum r b a _ (Nat.le_refl _), hsum _ (Nat.le_refl _), ← h2]
      omega

/-! ### What is gathered -/
def widerP (p : Int × Int) (n : Int) (met : Bool) : Int × Int := if met = true then (min p.1 n, max p.2 n) else (n, n)
theorem wider_ends {P Q : Int → Prop} {p : Int × Int} {n : Int} {met : Bool} (h : met = true → EndsOf P p.1 p.2) (hn : met = false → ∀ m, ¬ P m) (hQ : ∀ m, Q m ↔ P m ∨ m = n) : EndsOf Q (widerP p n met).1 (widerP p n met).2 := by
  unfold widerP
  cases met with
  | true =>
    have h := h rfl
    rw [if_pos rfl]
    refine ⟨?_, ?_, fun m hm => ?_⟩
    · show Q (min p.1 n)
      rw [hQ]
      by_cases e : p.1 ≤ n
      · left; rw [Int.min_eq_left e]; exact h.l
      · right; omega
    · show Q (max p.2 n)
      rw [hQ]
      by_cases e : n ≤ p.2
      · left; rw [Int.max_eq_left e]; exact h.h
      · right; omega
    · show min p.1 n ≤ m ∧ m ≤ max p.2 n
      rcases (hQ m).1 hm with hm | hm
      · have := h.b m hm; omega
      · omega
  | false =>
    rw [if_neg (by decide)]
    refine ⟨(hQ n).2 (.inr rfl), (hQ n).2 (.inr rfl), fun m hm => ?_⟩
    rcases (hQ m).1 hm with hm | hm
    · exact absurd hm (hn rfl m)
    · subst hm; exact ⟨Int.le_refl _, Int.le_refl _⟩
/-- What has been gathered of some truths. -/
structure AccE (r : Round) (V : List Int → Int → Prop) (own : List (Int × Int)) (su we : Int × Int) (met : Bool) : Prop where
  len : own.length = r.houses.length
  some : met = true ↔ ∃ a w, V a w
  ow : met = true → ∀ i, i < r.houses.length → EndsOf (fun m => ∃ a w, V a w ∧ m = valE r a i) (own.getD i (0, 0)).1 (own.getD i (0, 0)).2
  su : met = true → EndsOf (fun m => ∃ a w, V a w ∧ m = sumE r a r.houses.length) su.1 su.2
  we : met = true → EndsOf (fun m => ∃ a w, V a w ∧ m = w) we.1 we.2
theorem AccE.congr {r : Round} {V V' : List Int → Int → Prop} {own : List (Int × Int)} {su we : Int × Int} {met : Bool} (h : AccE r V own su we met) (hV : ∀ a w, V' a w ↔ V a w) : AccE r V' own su we met := by
  have : V' = V := funext fun a => funext fun w => propext (hV a w)
  rw [this]; exact h
def ownUp (r : Round) (a : List Int) (met : Bool) (own : List (Int × Int)) (k : Nat) : List (Int × Int) := (List.range own.length).map fun i => if i < k then widerP (own.getD i (0, 0)) (valE r a i) met else own.getD i (0, 0)
theorem ownUp_length (r : Round) (a : List Int) (met : Bool) (own : List (Int × Int)) (k : Nat) : (ownUp r a met own k).length = own.length := by simp [ownUp]
theorem ownUp_at {r : Round} {a : List Int} {met : Bool} {own : List (Int × Int)} {k i : Nat} (h : i < own.length) : (ownUp r a met own k)[i]? = some (if i < k then widerP (own.getD i (0, 0)) (valE r a i) met else own.getD i (0, 0)) := by simp [ownUp, h]
theorem ownUp_zero (r : Round) (a : List Int) (met : Bool) (own : List (Int × Int)) : ownUp r a met own 0 = own := by
  refine List.ext_getElem? fun i => ?_
  by_cases h : i < own.length
  · rw [ownUp_at h, if_neg (by omega), List.getD_eq_getElem?_getD, List.getElem?_eq_getElem h]; rfl
  · rw [List.getElem?_eq_none (by rw [ownUp_length]; omega), List.getElem?_eq_none (by omega)]
theorem ownUp_set {r : Round} {a : List Int} {met : Bool} {own : List (Int × Int)} {k : Nat} (_h : k < own.length) : (ownUp r a met own k).set k (widerP (own.getD k (0, 0)) (valE r a k) met) = ownUp r a met own (k + 1) := by
  refine List.ext_getElem? fun i => ?_
  by_cases hi : i < own.length
  · rw [ownUp_at hi, List.getElem?_set]
    by_cases e : k = i
    · subst e
      rw [if_pos rfl, if_pos (by rw [ownUp_length]; omega), if_pos (by omega)]
    · rw [if_neg e, ownUp_at hi]
      by_cases e2 : i < k
      · rw [if_pos e2, if_pos (by omega)]
      · rw [if_neg e2, if_neg (by omega)]
  · rw [List.getElem?_eq_none (by rw [List.length_set, ownUp_length]; omega), List.getElem?_eq_none (by rw [ownUp_length]; omega)]
theorem AccE.yes {r : Round} {V V' : List Int → Int → Prop} {own : List (Int × Int)} {su we : Int × Int} {met : Bool} {a0 : List Int} {w0 : Int} (h : AccE r V own su we met) (hV : ∀ a w, V' a w ↔ V a w ∨ (a = a0 ∧ w = w0)) :
    AccE r V' (ownUp r a0 met own own.length) (widerP su (sumE r a0 r.houses.length) met) (widerP we w0 met) true := by
  have hno : met = false → ∀ a w, ¬ V a w := fun e a w hv => by rw [h.some.2 ⟨a, w, hv⟩] at e; cases e
  refine ⟨by rw [ownUp_length]; exact h.len, ⟨fun _ => ⟨a0, w0, (hV _ _).2 (.inr ⟨rfl, rfl⟩)⟩, fun _ => rfl⟩, fun _ i hi => ?_, fun _ => ?_, fun _ => ?_⟩
  · have hil : i < own.length := by rw [h.len]; exact hi
    rw [List.getD_eq_getElem?_getD (l := ownUp r a0 met own own.length), ownUp_at hil, if_pos hil, Option.getD_some]
    refine wider_ends (P := fun m => ∃ a w, V a w ∧ m = valE r a i) (fun e => h.ow e i hi) (fun e m ⟨a, w, hv, _⟩ => hno e a w hv) (fun m => ?_)
    constructor
    · rintro ⟨a, w, hv, rfl⟩
      rcases (hV a w).1 hv with hv | ⟨rfl, rfl⟩
      · exact .inl ⟨a, w, hv, rfl⟩
      · exact .inr rfl
    · rintro (⟨a, w, hv, rfl⟩ | rfl)
      · exact ⟨a, w, (hV a w).2 (.inl hv), rfl⟩
      · exact ⟨a0, w0, (hV _ _).2 (.inr ⟨rfl, rfl⟩), rfl⟩
  · refine wider_ends (P := fun m => ∃ a w, V a w ∧ m = sumE r a r.houses.length) h.su (fun e m ⟨a, w, hv, _⟩ => hno e a w hv) (fun m => ?_)
    constructor
    · rintro ⟨a, w, hv, rfl⟩
      rcases (hV a w).1 hv with hv | ⟨rfl, rfl⟩
      · exact .inl ⟨a, w, hv, rfl⟩
      · exact .inr rfl
    · rintro (⟨a, w, hv, rfl⟩ | rfl)
      · exact ⟨a, w, (hV a w).2 (.inl hv), rfl⟩
      · exact ⟨a0, w0, (hV _ _).2 (.inr ⟨rfl, rfl⟩), rfl⟩
  · refine wider_ends (P := fun m => ∃ a w, V a w ∧ m = w) h.we (fun e m ⟨a, w, hv, _⟩ => hno e a w hv) (fun m => ?_)
    constructor
    · rintro ⟨a, w, hv, rfl⟩
      rcases (hV a m).1 hv with hv | ⟨rfl, rfl⟩
      · exact .inl ⟨a, m, hv, rfl⟩
      · exact .inr rfl
    · rintro (⟨a, w, hv, rfl⟩ | rfl)
      · exact ⟨a, m, (hV a m).2 (.inl hv), rfl⟩
      · exact ⟨a0, m, (hV _ _).2 (.inr ⟨rfl, rfl⟩), rfl⟩
/-- The truths of numbers up to some place, and of weights up to some weight. -/
def SeenE (r : Round) (k : Nat) (wc : Int) (a : List Int) (w : Int) : Prop := TriedE r a w ∧ (rankE (spansE r) a < k ∨ (rankE (spansE r) a = k ∧ w < wc))
theorem seen_zero (r : Round) (a : List Int) (w : Int) : ¬ SeenE r 0 r.lo a w := by
  rintro ⟨⟨_, ⟨h, _⟩, _⟩, h1 | ⟨_, h1⟩⟩ <;> omega
theorem acc_zero (r : Round) {own : List (Int × Int)} (hl : own.length = r.houses.length) (su we : Int × Int) : AccE r (SeenE r 0 r.lo) own su we false :=
  ⟨hl, ⟨(fun h => by cases h), fun ⟨a, w, h⟩ => absurd h (seen_zero r a w)⟩, (fun h => by cases h), (fun h => by cases h), (fun h => by cases h)⟩
theorem seen_step {r : Round} {a0 : List Int} {w0 : Int} (hb : InBox (spansE r) a0) (hf : TriedE r a0 w0) (a : List Int) (w : Int) : SeenE r (rankE (spansE r) a0) (w0 + 1) a w ↔ SeenE r (rankE (spansE r) a0) w0 a w ∨ (a = a0 ∧ w = w0) := by
  unfold SeenE
  constructor
  · rintro ⟨h1, h2 | ⟨h2, h3⟩⟩
    · exact .inl ⟨h1, .inl h2⟩
    · by_cases e : w < w0
      · exact .inl ⟨h1, .inr ⟨h2, e⟩⟩
      · exact .inr ⟨rank_inj h1.1 hb h2, by omega⟩
  · rintro (⟨h1, h2 | ⟨h2, h3⟩⟩ | ⟨rfl, rfl⟩)
    · exact ⟨h1, .inl h2⟩
    · exact ⟨h1, .inr ⟨h2, by omega⟩⟩
    · exact ⟨hf, .inr ⟨rfl, by omega⟩⟩
theorem seen_skip {r : Round} {a0 : List Int} {w0 : Int} (hb : InBox (spansE r) a0) (hf : ¬ TriedE r a0 w0) (a : List Int) (w : Int) : SeenE r (rankE (spansE r) a0) (w0 + 1) a w ↔ SeenE r (rankE (spansE r) a0) w0 a w := by
  unfold SeenE
  constructor
  · rintro ⟨h1, h2 | ⟨h2, h3⟩⟩
    · exact ⟨h1, .inl h2⟩
    · by_cases e : w < w0
      · exact ⟨h1, .inr ⟨h2, e⟩⟩
      · have h4 := rank_inj h1.1 hb h2
        have h5 : w = w0 := by omega
        subst h4; subst h5
        exact absurd h1 hf
  · rintro ⟨h1, h2 | ⟨h2, h3⟩⟩
    · exact ⟨h1, .inl h2⟩
    · exact ⟨h1, .inr ⟨h2, by omega⟩⟩
theorem seen_turn {r : Round} (k : Nat) (a : List Int) (w : Int) : SeenE r (k + 1) r.lo a w ↔ SeenE r k (r.hi + 1) a w := by
  unfold SeenE
  constructor
  · rintro ⟨h1, h2 | ⟨h2, h3⟩⟩
    · refine ⟨h1, ?_⟩
      have := h1.2.1.2
      by_cases e : rankE (spansE r) a < k
      · exact .inl e
      · exact .inr ⟨by omega, by omega⟩
    · have := h1.2.1.1; omega
  · rintro ⟨h1, h2 | ⟨h2, h3⟩⟩
    · exact ⟨h1, .inl (by omega)⟩
    · exact ⟨h1, .inl (by omega)⟩
theorem seen_all {r : Round} {k : Nat} (hk : tot (spansE r) ≤ k) (a : List Int) (w : Int) : SeenE r k r.lo a w ↔ TriedE r a w := by
  unfold SeenE
  constructor
  · exact fun h => h.1
  · exact fun h => ⟨h, .inl (by have := rank_lt h.1; omega)⟩
/-- All truths: what was gathered is what the program tells. -/
theorem acc_all {r : Round} (hB : RoundB r) {own : List (Int × Int)} {su we : Int × Int} {met : Bool} (h : AccE r (TriedE r) own su we met) :
    met = agreeB r (-1) ∧ (met = true → own = knownL r ∧ su = totalL r ∧ we = spanOf (butsL r (-1))) := by
  have hiff : met = true ↔ agreeB r (-1) = true := by
    rw [h.some, agreeB_iff hB]
    constructor
    · rintro ⟨a, w, hv⟩
      exact ⟨w, (buttonR_iff hB).2 ⟨hv.2.1.1, by have := hv.2.1.2; omega, _, _, tried_pick hv⟩⟩
    · rintro ⟨b, hb⟩
      obtain ⟨h1, h2, f, a, hp⟩ := (buttonR_iff hB).1 hb
      obtain ⟨v, hv, -⟩ := pick_tried hB h1 (by omega) hp
      exact ⟨v, b, hv⟩
  refine ⟨?_, fun hm => ?_⟩
  · cases met <;> cases hq : agreeB r (-1) <;> simp_all
  · have ha := hiff.1 hm
    refine ⟨?_, ?_, ?_⟩
    · refine List.ext_getElem? fun i => ?_
      by_cases hi : i < r.houses.length
      · have hk : (knownL r)[i]? = some (spanOf (houseL r (-1) i)) := by unfold knownL; simp [hi]
        rw [hk, List.getElem?_eq_getElem (by rw [h.len]; exact hi)]
        have h1 := h.ow hm i hi
        rw [List.getD_eq_getElem?_getD, List.getElem?_eq_getElem (by rw [h.len]; exact hi), Option.getD_some] at h1
        have h2 := (spanOf_ends (houseL_ne hB ha hi)).congr (Q := fun m => ∃ a w, TriedE r a w ∧ m = valE r a i) (fun m => by
          rw [mem_houseL hB hi, houseR_iff hB hi]
          constructor
          · rintro ⟨b, f, s, b1, b2, hp, rfl⟩
            obtain ⟨v, hv, he, -⟩ := pick_tried hB b1 (by omega) hp
            exact ⟨v, b, hv, (he i hi).symm⟩
          · rintro ⟨a, w, hv, rfl⟩
            exact ⟨w, _, _, hv.2.1.1, by have := hv.2.1.2; omega, tried_pick hv, rfl⟩)
        obtain ⟨e1, e2⟩ := h1.uniq h2
        exact congrArg some (Prod.ext e1 e2)
      · rw [List.getElem?_eq_none (by rw [h.len]; omega), List.getElem?_eq_none (by unfold knownL; simp; omega)]
    · have h2 := (spanOf_ends (allL_ne hB ha)).congr (Q := fun m => ∃ a w, TriedE r a w ∧ m = sumE r a r.houses.length) (fun m => by
        rw [mem_allL hB, allR_iff hB]
        constructor
        · rintro ⟨b, f, b1, b2, hp⟩
          obtain ⟨v, hv, -, he⟩ := pick_tried hB b1 (by omega) hp
          exact ⟨v, b, hv, he.symm⟩
        · rintro ⟨a, w, hv, rfl⟩
          exact ⟨w, _, hv.2.1.1, by have := hv.2.1.2; omega, tried_pick hv⟩)
      obtain ⟨e1, e2⟩ := (h.su hm).uniq h2
      exact Prod.ext e1 e2
    · have h2 := (spanOf_ends (butsL_ne ha)).congr (Q := fun m => ∃ a w, TriedE r a w ∧ m = w) (fun m => by
        rw [mem_butsL hB, buttonR_iff hB]
        constructor
        · rintro ⟨b1, b2, f, s, hp⟩
          obtain ⟨v, hv, -⟩ := pick_tried hB b1 (by omega) hp
          exact ⟨v, m, hv, rfl⟩
        · rintro ⟨a, w, hv, rfl⟩
          exact ⟨hv.2.1.1, by have := hv.2.1.2; omega, _, _, tried_pick hv⟩)
      obtain ⟨e1, e2⟩ := (h.we hm).uniq h2
      exact Prod.ext e1 e2
/-- No numbers at all: no truth. -/
theorem none_tried {r : Round} {m : Int} (hm : 0 < m) (h : ¬ 0 < manyUp m (spansE r)) (a : List Int) (w : Int) : ¬ TriedE r a w := fun hv => h (many_of hm (box_low hv.1))
end Go.Proofs.YtbeophjdiddomaaGreatDoor
