/- Choices, one number of each set: what a search meets is what some choice has. Plain Lean. -/
import Derived.Test.YtapkbonlijhmjaaGreatDoorSearchs
namespace Go.Proofs.YtapkbonlijhmjaaGreatDoor

/-! ### Sums -/
/-- The sum of the k numbers of f from a on. -/
def sumF (f : Nat → Int) (a : Nat) : Nat → Int
  | 0 => 0
  | k + 1 => sumF f a k + f (a + k)
theorem sumF_congr {f g : Nat → Int} {a : Nat} : ∀ {k : Nat}, (∀ i, a ≤ i → i < a + k → f i = g i) → sumF f a k = sumF g a k
  | 0, _ => rfl
  | k + 1, h => by
    rw [sumF, sumF, sumF_congr (fun i h1 h2 => h i h1 (by omega)), h (a + k) (by omega) (by omega)]
theorem sumF_front (f : Nat → Int) (a k : Nat) : sumF f a (k + 1) = f a + sumF f (a + 1) k := by
  induction k with
  | zero => simp [sumF]
  | succ k ih => rw [sumF, ih, sumF, show a + (k + 1) = a + 1 + k by omega]; omega
theorem sumF_add (f : Nat → Int) (a j k : Nat) : sumF f a (j + k) = sumF f a j + sumF f (a + j) k := by
  induction k with
  | zero => simp [sumF]
  | succ k ih => rw [← Nat.add_assoc, sumF, ih, sumF, show a + (j + k) = a + j + k by omega]; omega
theorem sumF_nonneg {f : Nat → Int} {a : Nat} : ∀ {k : Nat}, (∀ i, a ≤ i → i < a + k → 0 ≤ f i) → 0 ≤ sumF f a k
  | 0, _ => by simp [sumF]
  | k + 1, h => by
    have h1 := sumF_nonneg (k := k) (fun i h1 h2 => h i h1 (by omega))
    have h2 := h (a + k) (by omega) (by omega)
    rw [sumF]; omega
/-- The sum without the number at i. -/
theorem sumF_at (f : Nat → Int) {n i : Nat} (hi : i < n) : sumF f 0 n = sumF f 0 i + (f i + sumF f (i + 1) (n - 1 - i)) := by
  have h1 := sumF_add f 0 i (n - i)
  rw [show i + (n - i) = n by omega] at h1
  rw [h1, show n - i = (n - 1 - i) + 1 by omega, sumF_front]; simp
theorem sumF_le {f : Nat → Int} {m : Int} {a : Nat} : ∀ {k : Nat}, (∀ i, a ≤ i → i < a + k → f i ≤ m) → sumF f a k ≤ k * m
  | 0, _ => by simp [sumF]
  | k + 1, h => by
    have h1 := sumF_le (k := k) (fun i h1 h2 => h i h1 (by omega))
    have h2 := h (a + k) (by omega) (by omega)
    rw [sumF, Int.natCast_succ, Int.add_mul, Int.one_mul]; omega

/-! ### What the sets of the search hold -/
def NonNeg (Ss : List (Int → Prop)) : Prop := ∀ i n, setN Ss i n → 0 ≤ n
theorem befS_iff {Ss : List (Int → Prop)} {most : Int} (h0 : 0 ≤ most) (hn : NonNeg Ss) : ∀ (k : Nat) (n : Int), befS Ss most k n ↔ ∃ f : Nat → Int, (∀ i, i < k → setN Ss i (f i)) ∧ n = sumF f 0 k ∧ n ≤ most
  | 0, n => by
    constructor
    · intro h; have e : n = 0 := h; exact ⟨fun _ => 0, fun i h => by omega, by rw [e]; rfl, by omega⟩
    · rintro ⟨f, _, h, _⟩; exact h
  | k + 1, n => by
    constructor
    · rintro ⟨x, y, hx, hy, rfl, hm⟩
      obtain ⟨f, h1, h2, _⟩ := (befS_iff h0 hn k x).1 hx
      refine ⟨fun i => if i = k then y else f i, fun i hi => ?_, ?_, hm⟩
      · by_cases e : i = k
        · subst e; simpa using hy
        · simp only [e, if_false]; exact h1 i (by omega)
      · rw [sumF, h2, sumF_congr (f := f) (g := fun i => if i = k then y else f i) (fun i _ hi => by rw [if_neg (by omega)])]; simp
    · rintro ⟨f, h1, h2, h3⟩
      have hk := h1 k (by omega)
      have := hn k _ hk
      rw [sumF, Nat.zero_add] at h2
      exact ⟨sumF f 0 k, f k, (befS_iff h0 hn k _).2 ⟨f, fun i hi => h1 i (by omega), rfl, by omega⟩, hk, h2, h3⟩
theorem aftS_iff {Ss : List (Int → Prop)} {most : Int} (h0 : 0 ≤ most) (hn : NonNeg Ss) : ∀ (j : Nat), j ≤ Ss.length → ∀ (n : Int), aftS Ss most j n ↔ ∃ f : Nat → Int, (∀ i, Ss.length - j ≤ i → i < Ss.length → setN Ss i (f i)) ∧ n = sumF f (Ss.length - j) j ∧ n ≤ most
  | 0, _, n => by
    constructor
    · intro h; have e : n = 0 := h; exact ⟨fun _ => 0, fun i h h' => by omega, by rw [e]; rfl, by omega⟩
    · rintro ⟨f, _, h, _⟩; exact h
  | j + 1, hj, n => by
    have hp : Ss.length - j = Ss.length - (j + 1) + 1 := by omega
    have hq : Ss.length - 1 - j = Ss.length - (j + 1) := by omega
    have ih := aftS_iff h0 hn j (by omega)
    rw [hp] at ih
    simp only [aftS, hq]
    generalize hP : Ss.length - (j + 1) = p at ih
    constructor
    · rintro ⟨x, y, hx, hy, rfl, hm⟩
      obtain ⟨f, h1, h2, _⟩ := (ih x).1 hx
      refine ⟨fun i => if i = p then y else f i, fun i hi hi' => ?_, ?_, hm⟩
      · by_cases e : i = p
        · subst e; simpa using hy
        · simp only [e, if_false]; exact h1 i (by omega) hi'
      · rw [sumF_front, h2, sumF_congr (f := f) (g := fun i => if i = p then y else f i) (fun i hi _ => by rw [if_neg (by omega)])]; simp; omega
    · rintro ⟨f, h1, h2, h3⟩
      have hk := h1 p (by omega) (by omega)
      have := hn p _ hk
      rw [sumF_front] at h2
      exact ⟨sumF f (p + 1) j, f p, (ih _).2 ⟨f, fun i hi hi' => h1 i (by omega) hi', rfl, by omega⟩, hk, by omega, h3⟩
/-- What is met is what a choice of one number of each set has. -/
theorem hitS_iff {Ss : List (Int → Prop)} {lo hi : Int} (h0 : 0 ≤ hi) (hn : NonNeg Ss) {i : Nat} (hi' : i < Ss.length) {m a : Int} : HitS Ss hi lo hi i m a ↔ ∃ f : Nat → Int, (∀ j, j < Ss.length → setN Ss j (f j)) ∧ f i = m ∧ a = sumF f 0 Ss.length ∧ lo ≤ a ∧ a ≤ hi := by
  have hL : Ss.length - (Ss.length - 1 - i) = i + 1 := by omega
  constructor
  · rintro ⟨hm, ⟨x, y, hx, hy, hxy, hle⟩, h1, h2⟩
    obtain ⟨f, f1, f2, _⟩ := (befS_iff h0 hn i x).1 hx
    obtain ⟨g, g1, g2, _⟩ := (aftS_iff h0 hn _ (by omega) y).1 hy
    rw [hL] at g1 g2
    refine ⟨fun j => if j < i then f j else if j = i then m else g j, fun j hj => ?_, by simp, ?_, h1, h2⟩
    · by_cases e1 : j < i
      · simp only [e1, if_true]; exact f1 j e1
      · by_cases e2 : j = i
        · subst e2; simpa using hm
        · simp only [e1, e2, if_false]; exact g1 j (by omega) hj
    · rw [sumF_at _ hi', ← sumF_congr (f := f) (a := 0) (k := i) (fun j _ hj => by rw [if_pos (by omega)]), ← sumF_congr (f := g) (a := i + 1) (fun j hj _ => by rw [if_neg (by omega), if_neg (by omega)]), ← f2, ← g2]
      simp; omega
  · rintro ⟨f, h1, h2, h3, h4, h5⟩
    have hx0 : 0 ≤ sumF f 0 i := sumF_nonneg (fun j _ hj => hn j _ (h1 j (by omega)))
    have hy0 : 0 ≤ sumF f (i + 1) (Ss.length - 1 - i) := sumF_nonneg (fun j _ hj => hn j _ (h1 j (by omega)))
    have hm0 := hn i _ (h1 i hi')
    have hs := sumF_at f hi'
    refine ⟨h2 ▸ h1 i hi', ⟨sumF f 0 i, sumF f (i + 1) (Ss.length - 1 - i), (befS_iff h0 hn i _).2 ⟨f, fun j hj => h1 j (by omega), rfl, by omega⟩, (aftS_iff h0 hn _ (by omega) _).2 ⟨f, fun j hj hj' => h1 j hj', by rw [hL], by omega⟩, by omega, by omega⟩, h4, h5⟩

/-! ### Truths -/
/-- f is a number of buttons for each house, all of which can be if a button weighs b; a is their sum. -/
def PickR (r : Round) (free b : Int) (f : Nat → Int) (a : Int) : Prop := (∀ j, j < r.houses.length → ownS r free b j (f j)) ∧ a = sumF f 0 r.houses.length ∧ r.all - r.off ≤ a ∧ a ≤ r.all + r.off
theorem ownSs_length (r : Round) (free b : Int) : (ownSs r free b).length = r.houses.length := by simp [ownSs]
theorem mem_ways {r : Round} {b : Int} {h : House} {free : Bool} {x : Int × Int} (hx : x ∈ waysOf r b h free) : okB r b h free x = true ∧ 0 ≤ x.1 ∧ x.1 ≤ h.cards ∧ 0 ≤ x.2 ∧ x.2 < r.per := by
  unfold waysOf at hx
  simp only [List.mem_flatMap, List.mem_filter, List.mem_range] at hx
  obtain ⟨f, hf, hm, ho⟩ := hx
  unfold rowOf at hm
  simp only [List.mem_map, List.mem_range] at hm
  obtain ⟨j, hj, rfl⟩ := hm
  exact ⟨ho, by simp, by simp; omega, by simp, by simp; omega⟩
theorem mem_ways_iff {r : Round} {b : Int} {h : House} {free : Bool} {x : Int × Int} : x ∈ waysOf r b h free ↔ okB r b h free x = true ∧ 0 ≤ x.1 ∧ x.1 ≤ h.cards ∧ 0 ≤ x.2 ∧ x.2 < r.per := by
  refine ⟨mem_ways, fun ⟨h1, h2, h3, h4, h5⟩ => ?_⟩
  unfold waysOf
  simp only [List.mem_flatMap, List.mem_filter, List.mem_range]
  refine ⟨x.1.toNat, by omega, ?_, h1⟩
  unfold rowOf
  simp only [List.mem_map, List.mem_range]
  exact ⟨x.2.toNat, by omega, by rw [Int.toNat_of_nonneg h2, Int.toNat_of_nonneg h4]⟩
theorem ownS_pos {r : Round} (hB : RoundB r) {free b : Int} {i : Nat} {n : Int} (h : ownS r free b i n) : 0 ≤ n := by
  obtain ⟨hs, h1, x, hx, rfl⟩ := h
  obtain ⟨_, h2, _, h3, _⟩ := mem_ways hx
  have hp := hB.p1
  unfold nOf
  have := Int.mul_nonneg (a := r.per) (b := x.1) (by omega) h2
  omega
theorem nonNeg_own {r : Round} (hB : RoundB r) (free b : Int) : NonNeg (ownSs r free b) := by
  intro i n h
  by_cases hi : i < r.houses.length
  · rw [ownSs_at hi] at h; exact ownS_pos hB h
  · unfold setN at h
    rw [List.getD_eq_getElem?_getD, List.getElem?_eq_none (by rw [ownSs_length]; omega)] at h
    exact h.elim
theorem hitR_iff {r : Round} (hB : RoundB r) {free b : Int} {i : Nat} (hi : i < r.houses.length) {m a : Int} : HitR r free b i m a ↔ ∃ f, PickR r free b f a ∧ f i = m := by
  have h0 : 0 ≤ r.all + r.off := by have := hB.a1; have := hB.o1; omega
  unfold HitR
  rw [hitS_iff h0 (nonNeg_own hB free b) (by rw [ownSs_length]; exact hi), ownSs_length]
  constructor
  · rintro ⟨f, h1, h2, h3, h4, h5⟩
    exact ⟨f, ⟨fun j hj => by have := h1 j hj; rwa [ownSs_at hj] at this, h3, h4, h5⟩, h2⟩
  · rintro ⟨f, ⟨h1, h3, h4, h5⟩, h2⟩
    exact ⟨f, fun j hj => by rw [ownSs_at hj]; exact h1 j hj, h2, h3, h4, h5⟩
theorem houseR_iff {r : Round} (hB : RoundB r) {free hi : Int} {i : Nat} (hi' : i < r.houses.length) {m : Int} : houseR r free hi i m ↔ ∃ b f a, r.lo ≤ b ∧ b < hi ∧ PickR r free b f a ∧ f i = m := by
  unfold houseR
  constructor
  · rintro ⟨b, h1, h2, a, h⟩
    obtain ⟨f, h3, h4⟩ := (hitR_iff hB hi').1 h
    exact ⟨b, f, a, h1, h2, h3, h4⟩
  · rintro ⟨b, f, a, h1, h2, h3, h4⟩
    exact ⟨b, h1, h2, a, (hitR_iff hB hi').2 ⟨f, h3, h4⟩⟩
theorem allR_iff {r : Round} (hB : RoundB r) {free hi a : Int} : allR r free hi a ↔ ∃ b f, r.lo ≤ b ∧ b < hi ∧ PickR r free b f a := by
  unfold allR
  constructor
  · rintro ⟨b, h1, h2, i, m, h3, h⟩
    obtain ⟨f, h4, _⟩ := (hitR_iff hB h3).1 h
    exact ⟨b, f, h1, h2, h4⟩
  · rintro ⟨b, f, h1, h2, h3⟩
    have := hB.h1
    exact ⟨b, h1, h2, 0, f 0, by omega, (hitR_iff hB (by omega)).2 ⟨f, h3, rfl⟩⟩
theorem buttonR_iff {r : Round} (hB : RoundB r) {free hi b : Int} : buttonR r free hi b ↔ r.lo ≤ b ∧ b < hi ∧ ∃ f a, PickR r free b f a := by
  unfold buttonR
  constructor
  · rintro ⟨h1, h2, i, m, a, h3, h⟩
    obtain ⟨f, h4, _⟩ := (hitR_iff hB h3).1 h
    exact ⟨h1, h2, f, a, h4⟩
  · rintro ⟨h1, h2, f, a, h3⟩
    have := hB.h1
    exact ⟨h1, h2, 0, f 0, a, by omega, (hitR_iff hB (by omega)).2 ⟨f, h3, rfl⟩⟩
/-- If anything is met, every house has a number that is met. -/
theorem house_of_button {r : Round} (hB : RoundB r) {free hi : Int} {i : Nat} (hi' : i < r.houses.length) (h : ∃ b, buttonR r free hi b) : ∃ m, houseR r free hi i m := by
  obtain ⟨b, hb⟩ := h
  obtain ⟨h1, h2, f, a, h3⟩ := (buttonR_iff hB).1 hb
  exact ⟨f i, (houseR_iff hB hi').2 ⟨b, f, a, h1, h2, h3, rfl⟩⟩
theorem button_of_house {r : Round} (hB : RoundB r) {free hi : Int} {i : Nat} (hi' : i < r.houses.length) {m : Int} (h : houseR r free hi i m) : ∃ b, buttonR r free hi b := by
  obtain ⟨b, f, a, h1, h2, h3, _⟩ := (houseR_iff hB hi').1 h
  exact ⟨b, (buttonR_iff hB).2 ⟨h1, h2, f, a, h3⟩⟩
theorem all_of_button {r : Round} (hB : RoundB r) {free hi : Int} (h : ∃ b, buttonR r free hi b) : ∃ a, allR r free hi a := by
  obtain ⟨b, hb⟩ := h
  obtain ⟨h1, h2, f, a, h3⟩ := (buttonR_iff hB).1 hb
  exact ⟨a, (allR_iff hB).2 ⟨b, f, h1, h2, h3⟩⟩

/-! ### Both ends -/
structure EndsOf (P : Int → Prop) (lo hi : Int) : Prop where
  l : P lo
  h : P hi
  b : ∀ m, P m → lo ≤ m ∧ m ≤ hi
theorem EndsOf.uniq {P : Int → Prop} {lo hi lo' hi' : Int} (h : EndsOf P lo hi) (k : EndsOf P lo' hi') : lo = lo' ∧ hi = hi' := by
  have h1 := h.b _ k.l; have h2 := h.b _ k.h; have h3 := k.b _ h.l; have h4 := k.b _ h.h; omega
theorem EndsOf.congr {P Q : Int → Prop} {lo hi : Int} (h : EndsOf P lo hi) (hq : ∀ m, P m ↔ Q m) : EndsOf Q lo hi :=
  ⟨(hq _).1 h.l, (hq _).1 h.h, fun m hm => h.b m ((hq m).2 hm)⟩
theorem foldl_min_le : ∀ (l : List Int) (x : Int), l.foldl min x ≤ x ∧ ∀ y, y ∈ l → l.foldl min x ≤ y
  | [], x => ⟨Int.le_refl _, fun y h => by simp at h⟩
  | z :: l, x => by
    obtain ⟨h1, h2⟩ := foldl_min_le l (min x z)
    simp only [List.foldl_cons]
    refine ⟨by omega, fun y hy => ?_⟩
    rcases List.mem_cons.1 hy with rfl | hy
    · omega
    · exact h2 y hy
theorem foldl_min_mem : ∀ (l : List Int) (x : Int), l.foldl min x ∈ x :: l
  | [], x => by simp
  | z :: l, x => by
    simp only [List.foldl_cons]
    have h := foldl_min_mem l (min x z)
    rcases List.mem_cons.1 h with h | h
    · rw [h]; rcases (show min x z = x ∨ min x z = z by omega) with e | e <;> rw [e] <;> simp
    · simp [h]
theorem foldl_max_le : ∀ (l : List Int) (x : Int), x ≤ l.foldl max x ∧ ∀ y, y ∈ l → y ≤ l.foldl max x
  | [], x => ⟨Int.le_refl _, fun y h => by simp at h⟩
  | z :: l, x => by
    obtain ⟨h1, h2⟩ := foldl_max_le l (max x z)
    simp only [List.foldl_cons]
    refine ⟨by omega, fun y hy => ?_⟩
    rcases List.mem_cons.1 hy with rfl | hy
    · omega
    · exact h2 y hy
theorem foldl_max_mem : ∀ (l : List Int) (x : Int), l.foldl max x ∈ x :: l
  | [], x => by simp
  | z :: l, x => by
    simp only [List.foldl_cons]
    have h := foldl_max_mem l (max x z)
    rcases List.mem_cons.1 h with h | h
    · rw [h]; rcases (show max x z = x ∨ max x z = z by omega) with e | e <;> rw [e] <;> simp
    · simp [h]
theorem ends_list (x : Int) (l : List Int) : EndsOf (· ∈ x :: l) (l.foldl min x) (l.foldl max x) :=
  ⟨foldl_min_mem l x, foldl_max_mem l x, fun m hm => by
    have h1 := foldl_min_le l x
    have h2 := foldl_max_le l x
    rcases List.mem_cons.1 hm with rfl | hm
    · exact ⟨h1.1, h2.1⟩
    · exact ⟨h1.2 m hm, h2.2 m hm⟩⟩

/-! ### Truths, as lists: for rounds that are known -/
def prods : List (List Int) → List (List Int)
  | [] => [[]]
  | l :: ls => l.flatMap fun x => (prods ls).map (x :: ·)
def fOf (xs : List Int) : Nat → Int := fun i => xs.getD i 0
theorem mem_prods : ∀ {Ls : List (List Int)} {xs : List Int}, xs ∈ prods Ls ↔ xs.length = Ls.length ∧ ∀ i, i < Ls.length → xs.getD i 0 ∈ Ls.getD i []
  | [], xs => by
    simp only [prods, List.mem_singleton, List.length_nil]
    exact ⟨fun h => by subst h; exact ⟨rfl, fun i hi => by omega⟩, fun h => List.length_eq_zero_iff.1 h.1⟩
  | l :: ls, xs => by
    simp only [prods, List.mem_flatMap, List.mem_map]
    constructor
    · rintro ⟨x, hx, ys, hy, rfl⟩
      obtain ⟨h1, h2⟩ := mem_prods.1 hy
      refine ⟨by simp [h1], fun i hi => ?_⟩
      cases i with
      | zero => simpa using hx
      | succ i => simpa using h2 i (by simpa using hi)
    · rintro ⟨h1, h2⟩
      cases xs with
      | nil => simp at h1
      | cons x ys =>
        refine ⟨x, by simpa using h2 0 (by simp), ys, mem_prods.2 ⟨by simpa using h1, fun i hi => by simpa using h2 (i + 1) (by simpa using hi)⟩, rfl⟩
def noHouse : House := ⟨0, 0, 0, 0, 0, 0⟩
def couldL (r : Round) (free b : Int) (i : Nat) : List Int := (waysOf r b (r.houses.getD i noHouse) (decide ((i : Int) = free))).map fun x => nOf r x.1 x.2
theorem mem_couldL {r : Round} {free b : Int} {i : Nat} (hi : i < r.houses.length) {n : Int} : n ∈ couldL r free b i ↔ ownS r free b i n := by
  unfold couldL ownS
  have e : r.houses[i]? = some (r.houses[i]) := List.getElem?_eq_getElem hi
  rw [List.getD_eq_getElem?_getD, e]
  simp only [Option.getD_some, List.mem_map]
  constructor
  · rintro ⟨x, hx, rfl⟩; exact ⟨_, rfl, x, hx, rfl⟩
  · rintro ⟨h, hh, x, hx, rfl⟩; cases hh; exact ⟨x, hx, rfl⟩
theorem sumF_list : ∀ (xs : List Int), sumF (fOf xs) 0 xs.length = xs.sum
  | [] => rfl
  | x :: xs => by
    rw [List.length_cons, sumF_front, List.sum_cons, ← sumF_list xs]
    have : ∀ k, sumF (fOf (x :: xs)) (0 + 1) k = sumF (fOf xs) 0 k := by
      intro k
      induction k with
      | zero => rfl
      | succ k ih => rw [sumF, ih, sumF, show 0 + 1 + k = (0 + k) + 1 by omega]; rfl
    rw [this]; rfl
def truthsL (r : Round) (free b : Int) : List (List Int) := (prods ((List.range r.houses.length).map (couldL r free b))).filter fun xs => decide (r.all - r.off ≤ xs.sum ∧ xs.sum ≤ r.all + r.off)
theorem mem_truthsL {r : Round} {free b : Int} {xs : List Int} : xs ∈ truthsL r free b ↔ xs.length = r.houses.length ∧ PickR r free b (fOf xs) xs.sum := by
  unfold truthsL PickR
  rw [List.mem_filter, mem_prods, decide_eq_true_eq]
  simp only [List.length_map, List.length_range]
  constructor
  · rintro ⟨⟨h1, h2⟩, h3⟩
    refine ⟨h1, fun j hj => ?_, by rw [← h1, sumF_list], h3⟩
    have := h2 j hj
    rw [List.getD_eq_getElem?_getD, List.getElem?_map, List.getElem?_range hj] at this
    exact (mem_couldL hj).1 this
  · rintro ⟨h1, h2, _, h3⟩
    refine ⟨⟨h1, fun j hj => ?_⟩, h3⟩
    rw [List.getD_eq_getElem?_getD (l := List.map _ _), List.getElem?_map, List.getElem?_range hj]
    exact (mem_couldL hj).2 (h2 j hj)
theorem pick_list {r : Round} {free b : Int} {f : Nat → Int} {a : Int} (h : PickR r free b f a) : ∃ xs, xs ∈ truthsL r free b ∧ a = xs.sum ∧ ∀ i, i < r.houses.length → xs.getD i 0 = f i := by
  obtain ⟨h1, h2, h3⟩ := h
  have hg : ∀ i, i < r.houses.length → ((List.range r.houses.length).map f).getD i 0 = f i := fun i hi => by
    rw [List.getD_eq_getElem?_getD, List.getElem?_map, List.getElem?_range hi]; rfl
  have hs : ((List.range r.houses.length).map f).sum = a := by
    rw [h2, ← sumF_list]
    simp only [List.length_map, List.length_range]
    exact sumF_congr (fun i _ hi => hg i (by omega))
  refine ⟨(List.range r.houses.length).map f, mem_truthsL.2 ⟨by simp, fun j hj => ?_, ?_, ?_⟩, hs.symm, hg⟩
  · unfold fOf; rw [hg j hj]; exact h1 j hj
  · rw [hs, h2]; exact (sumF_congr (fun i _ hi => hg i (by omega))).symm
  · rw [hs]; exact h3
def buttonsL (r : Round) : List Int := (List.range (r.hi - r.lo + 1).toNat).map fun (i : Nat) => r.lo + (i : Int)
theorem mem_buttonsL {r : Round} {b : Int} : b ∈ buttonsL r ↔ r.lo ≤ b ∧ b < r.hi + 1 := by
  unfold buttonsL
  simp only [List.mem_map, List.mem_range]
  constructor
  · rintro ⟨i, hi, rfl⟩; omega
  · rintro ⟨h1, h2⟩; exact ⟨(b - r.lo).toNat, by omega, by omega⟩
def houseL (r : Round) (free : Int) (i : Nat) : List Int := (buttonsL r).flatMap fun b => (truthsL r free b).map fun xs => xs.getD i 0
def allL (r : Round) (free : Int) : List Int := (buttonsL r).flatMap fun b => (truthsL r free b).map fun xs => xs.sum
def butsL (r : Round) (free : Int) : List Int := (buttonsL r).filter fun b => decide (truthsL r free b ≠ [])
theorem mem_houseL {r : Round} (hB : RoundB r) {free : Int} {i : Nat} (hi : i < r.houses.length) {m : Int} : m ∈ houseL r free i ↔ houseR r free (r.hi + 1) i m := by
  rw [houseR_iff hB hi]
  unfold houseL
  simp only [List.mem_flatMap, List.mem_map, mem_buttonsL]
  constructor
  · rintro ⟨b, ⟨h1, h2⟩, xs, hx, rfl⟩
    exact ⟨b, fOf xs, _, h1, h2, (mem_truthsL.1 hx).2, rfl⟩
  · rintro ⟨b, f, a, h1, h2, h3, rfl⟩
    obtain ⟨xs, h4, _, h5⟩ := pick_list h3
    exact ⟨b, ⟨h1, h2⟩, xs, h4, h5 i hi⟩
theorem mem_butsL {r : Round} (hB : RoundB r) {free b : Int} : b ∈ butsL r free ↔ buttonR r free (r.hi + 1) b := by
  rw [buttonR_iff hB]
  unfold butsL
  simp only [List.mem_filter, mem_buttonsL, decide_eq_true_eq, and_assoc]
  constructor
  · rintro ⟨h1, h2, h3⟩
    cases h : truthsL r free b with
    | nil => exact absurd h h3
    | cons xs l => exact ⟨h1, h2, fOf xs, _, (mem_truthsL.1 (h ▸ List.mem_cons_self)).2⟩
  · rintro ⟨h1, h2, f, a, h3⟩
    obtain ⟨xs, h4, _⟩ := pick_list h3
    exact ⟨h1, h2, List.ne_nil_of_mem h4⟩
theorem mem_allL {r : Round} (hB : RoundB r) {free a : Int} : a ∈ allL r free ↔ allR r free (r.hi + 1) a := by
  rw [allR_iff hB]
  unfold allL
  simp only [List.mem_flatMap, List.mem_map, mem_buttonsL]
  constructor
  · rintro ⟨b, ⟨h1, h2⟩, xs, hx, rfl⟩
    exact ⟨b, fOf xs, h1, h2, (mem_truthsL.1 hx).2⟩
  · rintro ⟨b, f, h1, h2, h3⟩
    obtain ⟨xs, h4, h5, _⟩ := pick_list h3
    exact ⟨b, ⟨h1, h2⟩, xs, h4, h5.symm⟩
end Go.Proofs.YtapkbonlijhmjaaGreatDoor
