/- Texts of books, in plain Lean: splitting, numbers, lines; what a text tells of its book. -/
import Derived.Test.YtokananogogjaaaGreatDoorOb
import Derived.Lib.SplitLaws
import Derived.Lib.ItoaLen
namespace Go.Proofs.YtokananogogjaaaGreatDoor
/-! ### In plain Lean -/
def numsT (ns : List Int) : List UInt8 := ns.flatMap fun n => 32 :: Lib.itoa n
def wBook : List UInt8 := [98, 111, 111, 107]
def wGood : List UInt8 := [103, 111, 111, 100]
def wEntry : List UInt8 := [101, 110, 116, 114, 121]
def lineT (word : List UInt8) (ns : List Int) : List UInt8 := word ++ numsT ns
def entN (x : Int × Int × Int) : List Int := [x.1, x.2.1, x.2.2]
def rowsT (b : Book) : List (List UInt8) := (b.goods.map fun g => lineT wGood [g]) ++ b.entries.map fun x => lineT wEntry (entN x)
def linesT (b : Book) : List (List UInt8) := lineT wBook [b.editions, b.moves] :: rowsT b
def lineSum (i : Nat) (l : List UInt8) : Nat → Int
 | 0 => 0
 | k + 1 => lineSum i l k + ((l.getD k 0).toNat : Int) * ((k : Int) + 1) * ((i : Int) + 1)
def linesSum (ls : List (List UInt8)) : Nat → Int
 | 0 => 0
 | i + 1 => linesSum ls i + lineSum i (ls.getD i []) (ls.getD i []).length
def checkT (ls : List (List UInt8)) : Int := linesSum ls ls.length % 151
/-! ### Splitting at one byte -/
def splitL (c : UInt8) : List UInt8 → List (List UInt8)
 | [] => [[]]
 | b :: l => if b = c then [] :: splitL c l else match splitL c l with | [] => [[b]] | h :: t => (b :: h) :: t
theorem splitL_ne (c : UInt8) : ∀ s : List UInt8, splitL c s ≠ []
 | [] => by simp [splitL]
 | b :: l => by
  unfold splitL
  split
  ·simp
  ·split <;> simp
theorem splitL_eq (c : UInt8) : ∀ s : List UInt8, Lib.splitK [c] 0 (Lib.count s [c]) s = splitL c s
 | [] => by
  have : Lib.count [] [c] = 0 := Lib.count_miss (by simp [Lib.index])
  rw [this]; rfl
 | b :: l => by
  have ih := splitL_eq c l
  by_cases h : b = c
  ·subst h
   have hix : Lib.index (b :: l) [b] = ((0 : Nat) : Int) := by rw [Lib.index]; simp [List.isPrefixOf]
   rw [Lib.count_cons_eq, Nat.add_comm, Lib.splitK, hix]
   simp [splitL, ih]
  ·have hp : ([c] : List UInt8).isPrefixOf (b :: l) = false := by simp [List.isPrefixOf, Ne.symm h]
   have hix : Lib.index (b :: l) [c] = if Lib.index l [c] == -1 then -1 else Lib.index l [c] + 1 := by rw [Lib.index, hp]; simp
   rw [Lib.count_cons_ne b c l h]
   unfold splitL
   rw [if_neg h, ← ih]
   by_cases hm : Lib.index l [c] = -1
   ·rw [Lib.count_miss hm]; rfl
   ·have hge := Lib.index_ge l [c]
    obtain ⟨j, hj⟩ : ∃ j : Nat, Lib.index l [c] = j := ⟨(Lib.index l [c]).toNat, by omega⟩
    have hix' : Lib.index (b :: l) [c] = ((j + 1 : Nat) : Int) := by rw [hix, if_neg (fun e => hm (beq_iff_eq.1 e)), hj]; omega
    rw [Lib.count_hit (by simp) hj, Nat.add_comm, Lib.splitK, Lib.splitK, hix', hj]
    have n1 : (((j + 1 : Nat) : Int) == -1) = false := by rw [beq_eq_false_iff_ne]; omega
    have n2 : ((j : Int) == -1) = false := by rw [beq_eq_false_iff_ne]; omega
    rw [n1, n2]
    simp
theorem splitL_snoc (c b : UInt8) : ∀ s : List UInt8, splitL c (s ++ [b]) = if b = c then splitL c s ++ [[]] else (splitL c s).dropLast ++ [((splitL c s).getLastD []) ++ [b]]
 | [] => by
  by_cases h : b = c
  ·subst h; simp [splitL]
  ·simp [splitL, h]
 | x :: s => by
  have ih := splitL_snoc c b s
  obtain ⟨h0, t0, hs⟩ : ∃ h t, splitL c s = h :: t := by
   cases hq : splitL c s with
   | nil => exact absurd hq (splitL_ne c s)
   | cons h t => exact ⟨h, t, rfl⟩
  rw [List.cons_append]
  by_cases hx : x = c
  ·subst hx
   rw [show splitL x (x :: (s ++ [b])) = [] :: splitL x (s ++ [b]) by rw [splitL, if_pos rfl], show splitL x (x :: s) = [] :: splitL x s by rw [splitL, if_pos rfl], ih]
   by_cases h : b = x
   ·rw [if_pos h, if_pos h]; rfl
   ·rw [if_neg h, if_neg h, hs]; simp
  ·have e1 : splitL c (x :: s) = (x :: h0) :: t0 := by rw [splitL, if_neg hx, hs]
   rw [e1, splitL, if_neg hx, ih, hs]
   by_cases h : b = c
   ·rw [if_pos h, if_pos h]; simp
   ·rw [if_neg h, if_neg h]
    cases t0 with
    | nil => simp
    | cons y t => simp
/-- Pieces, joined again. -/
def gluedBy (c : UInt8) : List (List UInt8) → List UInt8
 | [] => []
 | [l] => l
 | l :: m :: t => l ++ c :: gluedBy c (m :: t)
theorem glued_split (c : UInt8) : ∀ s : List UInt8, gluedBy c (splitL c s) = s
 | [] => rfl
 | b :: l => by
  have ih := glued_split c l
  obtain ⟨h0, t0, hs⟩ : ∃ h t, splitL c l = h :: t := by
   cases hq : splitL c l with
   | nil => exact absurd hq (splitL_ne c l)
   | cons h t => exact ⟨h, t, rfl⟩
  rw [hs] at ih
  by_cases hb : b = c
  ·subst hb
   rw [splitL, if_pos rfl, hs, gluedBy, ih]; rfl
  ·rw [splitL, if_neg hb, hs]
   cases t0 with
   | nil => simp only [gluedBy] at ih ⊢; rw [ih]
   | cons y t => simp only [gluedBy] at ih ⊢; rw [List.cons_append, ih]
theorem split_whole {c : UInt8} : ∀ {l : List UInt8}, c ∉ l → splitL c l = [l]
 | [], _ => rfl
 | b :: l, h => by
  have hb : b ≠ c := fun e => h (by simp [e])
  rw [splitL, if_neg hb, split_whole (fun hm => h (by simp [hm]))]
theorem split_app {c : UInt8} {s : List UInt8} : ∀ {l : List UInt8}, c ∉ l → splitL c (l ++ c :: s) = l :: splitL c s
 | [], _ => by rw [List.nil_append, splitL, if_pos rfl]
 | b :: l, h => by
  have hb : b ≠ c := fun e => h (by simp [e])
  rw [List.cons_append, splitL, if_neg hb, split_app (fun hm => h (by simp [hm]))]
theorem split_glued {c : UInt8} : ∀ {ls : List (List UInt8)}, ls ≠ [] → (∀ l, l ∈ ls → c ∉ l) → splitL c (gluedBy c ls) = ls
 | [], h, _ => absurd rfl h
 | [l], _, h => split_whole (h l (by simp))
 | l :: m :: t, _, h => by
  rw [gluedBy, split_app (h l (by simp)), split_glued (by simp) (fun x hx => h x (by simp [hx]))]
theorem split_no (c : UInt8) : ∀ {s l : List UInt8}, l ∈ splitL c s → c ∉ l
 | [], l, h => by simp [splitL] at h; subst h; simp
 | b :: s, l, h => by
  by_cases hb : b = c
  ·rw [splitL, if_pos hb, List.mem_cons] at h
   rcases h with rfl | h
   ·simp
   ·exact split_no c h
  ·rw [splitL, if_neg hb] at h
   cases hq : splitL c s with
   | nil => exact absurd hq (splitL_ne c s)
   | cons x t =>
    rw [hq] at h
    simp only [List.mem_cons] at h
    rcases h with rfl | h
    ·have := split_no c (s := s) (l := x) (by rw [hq]; simp)
     simp only [List.mem_cons, not_or]
     exact ⟨fun e => hb e.symm, this⟩
    ·exact split_no c (s := s) (by rw [hq]; simp [h])

/-! ### Numbers -/
def digB (b : UInt8) : Bool := decide (48 ≤ b.toNat) && decide (b.toNat ≤ 57)
def valT (l : List UInt8) : Int := l.foldl (fun n b => 10 * n + ((b.toNat : Int) - 48)) 0
theorem valT_snoc (l : List UInt8) (b : UInt8) : valT (l ++ [b]) = 10 * valT l + ((b.toNat : Int) - 48) := by unfold valT; rw [List.foldl_append]; rfl
def numOk (l : List UInt8) : Bool := decide (l ≠ []) && decide (l.length ≤ 2) && l.all digB && decide (Lib.itoa (valT l) = l)
theorem digits_dec : ∀ u : Nat, (Lib.decDigits u).all digB = true ∧ valT (Lib.decDigits u) = u ∧ Lib.decDigits u ≠ [] := by
 intro u
 induction u using Nat.strongRecOn with
 | _ u ih =>
  have hd : ∀ k : Nat, k < 10 → digB (UInt8.ofNat (48 + k)) = true ∧ (UInt8.ofNat (48 + k)).toNat = 48 + k := fun k hk => by
   have : (UInt8.ofNat (48 + k)).toNat = 48 + k := by rw [UInt8.toNat_ofNat']; omega
   refine ⟨?_, this⟩
   unfold digB; rw [this]; simp; omega
  rw [Lib.decDigits]
  by_cases h : u < 10
  ·rw [dif_pos h]
   obtain ⟨h1, h2⟩ := hd u h
   refine ⟨by rw [List.all_cons, h1]; rfl, ?_, by simp⟩
   show 10 * 0 + (((UInt8.ofNat (48 + u)).toNat : Int) - 48) = u
   rw [h2]; omega
  ·rw [dif_neg h]
   obtain ⟨i1, i2, _⟩ := ih (u / 10) (by omega)
   obtain ⟨h1, h2⟩ := hd (u % 10) (by omega)
   refine ⟨by rw [List.all_append, i1, List.all_cons, h1]; rfl, ?_, by simp⟩
   rw [valT_snoc, i2, h2]; omega
theorem dec_len : ∀ (k u : Nat), 1 ≤ k → u < 10 ^ k → (Lib.decDigits u).length ≤ k
 | 0, _, h, _ => by omega
 | k + 1, u, _, hu => by
  rw [Lib.decDigits]
  by_cases h : u < 10
  ·rw [dif_pos h]; simp
  ·rw [dif_neg h, List.length_append, List.length_singleton]
   have h1 : u / 10 < 10 ^ k := by rw [Nat.pow_succ] at hu; omega
   cases k with
   | zero => simp at h1; omega
   | succ k => have := dec_len (k + 1) (u / 10) (by omega) h1; omega
theorem num_itoa {n : Int} (h0 : 0 ≤ n) (h1 : n ≤ 99) : numOk (Lib.itoa n) = true ∧ valT (Lib.itoa n) = n := by
 obtain ⟨u, rfl⟩ := Int.eq_ofNat_of_zero_le h0
 rw [Lib.itoa_nonneg]
 obtain ⟨d1, d2, d3⟩ := digits_dec u
 refine ⟨?_, d2⟩
 have hl := dec_len 2 u (by omega) (by omega)
 unfold numOk
 rw [d1, d2, Lib.itoa_nonneg]
 simp [d3, hl]
theorem val_bd : ∀ {l : List UInt8}, l.all digB = true → ∀ k, 0 ≤ valT (l.take k) ∧ valT (l.take k) < 10 ^ (l.take k).length := by
 intro l h k
 induction k with
 | zero => simp [valT]
 | succ k ih =>
  cases hk : l[k]? with
  | none => rw [List.take_add_one, hk]; simpa using ih
  | some b =>
   rw [List.take_add_one, hk, Option.toList_some, valT_snoc, List.length_append, List.length_singleton, Int.pow_succ]
   rw [List.all_eq_true] at h
   have := h b (List.mem_of_getElem? hk)
   simp only [digB, Bool.and_eq_true, decide_eq_true_eq] at this
   omega
theorem pow10_le {k : Nat} (h : k ≤ 2) : (10 : Int) ^ k ≤ 100 := by
 rcases (show k = 0 ∨ k = 1 ∨ k = 2 by omega) with rfl | rfl | rfl <;> decide
theorem num_ok {l : List UInt8} (h : numOk l = true) : 0 ≤ valT l ∧ valT l ≤ 99 ∧ Lib.itoa (valT l) = l ∧ l ≠ [] ∧ l.length ≤ 2 ∧ l.all digB = true := by
 unfold numOk at h
 simp only [Bool.and_eq_true, decide_eq_true_eq] at h
 obtain ⟨⟨⟨h1, h2⟩, h3⟩, h4⟩ := h
 have hb := val_bd h3 l.length
 rw [List.take_of_length_le (Nat.le_refl _)] at hb
 have h5 := pow10_le h2
 exact ⟨hb.1, by omega, h4, h1, h2, h3⟩

/-! ### Lines -/
def toldOk (word : List UInt8) (many : Nat) (s : List UInt8) : Bool := decide ((splitL 32 s).length = many + 1) && decide ((splitL 32 s).headD [] = word) && ((splitL 32 s).drop 1).all numOk
def toldN (s : List UInt8) : List Int := ((splitL 32 s).drop 1).map valT
def Small (ns : List Int) : Prop := ∀ y, y ∈ ns → 0 ≤ y ∧ y ≤ 99
theorem glued_nums : ∀ (w : List UInt8) (ws : List (List UInt8)), (∀ x, x ∈ ws → numOk x = true) → gluedBy 32 (w :: ws) = lineT w (ws.map valT)
 | w, [], _ => by simp [gluedBy, lineT, numsT]
 | w, x :: ws, h => by
  rw [gluedBy, glued_nums x ws (fun y hy => h y (by simp [hy]))]
  have hx := (num_ok (h x (by simp))).2.2.1
  simp [lineT, numsT, hx]
theorem told_line {word : List UInt8} {many : Nat} {s : List UInt8} (h : toldOk word many s = true) : (toldN s).length = many ∧ Small (toldN s) ∧ s = lineT word (toldN s) := by
 unfold toldOk at h
 simp only [Bool.and_eq_true, decide_eq_true_eq, List.all_eq_true] at h
 obtain ⟨⟨h1, h2⟩, h3⟩ := h
 refine ⟨by unfold toldN; rw [List.length_map, List.length_drop]; omega, fun y hy => ?_, ?_⟩
 ·unfold toldN at hy
  obtain ⟨x, hx, rfl⟩ := List.mem_map.1 hy
  have := num_ok (h3 x hx)
  exact ⟨this.1, this.2.1⟩
 ·have hg := glued_split 32 s
  cases hq : splitL 32 s with
  | nil => exact absurd hq (splitL_ne 32 s)
  | cons w ws =>
   rw [hq] at hg h2 h3
   simp only [List.headD_cons, List.drop_succ_cons, List.drop_zero] at h2 h3
   subst h2
   rw [glued_nums w ws h3] at hg
   unfold toldN
   rw [hq]
   exact hg.symm
theorem itoa_no {n : Int} (h : 0 ≤ n) {b : UInt8} (hb : b.toNat < 48) : b ∉ Lib.itoa n := by
 obtain ⟨u, rfl⟩ := Int.eq_ofNat_of_zero_le h
 rw [Lib.itoa_nonneg]
 intro hm
 have h1 := (digits_dec u).1
 rw [List.all_eq_true] at h1
 have := h1 b hm
 simp only [digB, Bool.and_eq_true, decide_eq_true_eq] at this
 omega
theorem split_line {word : List UInt8} (hw : (32 : UInt8) ∉ word) : ∀ {ns : List Int}, Small ns → splitL 32 (lineT word ns) = word :: ns.map Lib.itoa
 | [], _ => by simp only [lineT, numsT, List.flatMap_nil, List.append_nil, List.map_nil]; exact split_whole hw
 | n :: ns, h => by
  have e : lineT word (n :: ns) = word ++ 32 :: lineT (Lib.itoa n) ns := by simp [lineT, numsT]
  rw [e, split_app hw, split_line (itoa_no (h n (by simp)).1 (by decide)) (fun y hy => h y (by simp [hy]))]
  rfl
theorem line_told {word : List UInt8} (hw : (32 : UInt8) ∉ word) {ns : List Int} (h : Small ns) : toldOk word ns.length (lineT word ns) = true ∧ toldN (lineT word ns) = ns := by
 unfold toldOk toldN
 rw [split_line hw h]
 constructor
 ·simp only [List.length_cons, List.length_map, decide_true, List.headD_cons, List.drop_succ_cons, List.drop_zero, Bool.true_and, List.all_map, List.all_eq_true]
  intro y hy
  exact (num_itoa (h y hy).1 (h y hy).2).1
 ·simp only [List.drop_succ_cons, List.drop_zero, List.map_map]
  conv => rhs; rw [← List.map_id ns]
  refine List.map_congr_left fun y hy => ?_
  exact (num_itoa (h y hy).1 (h y hy).2).2
theorem line_no10 {word : List UInt8} (hw : (10 : UInt8) ∉ word) {ns : List Int} (h : Small ns) : (10 : UInt8) ∉ lineT word ns := by
 unfold lineT numsT
 rw [List.mem_append, List.mem_flatMap]
 rintro (h1 | ⟨y, hy, h1⟩)
 ·exact hw h1
 ·rcases List.mem_cons.1 h1 with h2 | h2
  ·cases h2
  ·exact itoa_no (h y hy).1 (by decide) h2
/-- The digits ahead of the last one. -/
def decHead (m : Nat) : List UInt8 := if m < 10 then [] else Lib.decDigits (m / 10)
def digitB (m : Nat) : UInt8 := UInt8.ofNat (48 + m % 10)
theorem digitB_nat (m : Nat) : (digitB m).toNat = 48 + m % 10 := by unfold digitB; rw [UInt8.toNat_ofNat']; omega
theorem dec_last (m : Nat) : Lib.decDigits m = decHead m ++ [digitB m] := by
 rw [Lib.decDigits]
 unfold decHead digitB
 by_cases h : m < 10
 ·rw [dif_pos h, if_pos h, Nat.mod_eq_of_lt h]; rfl
 ·rw [dif_neg h, if_neg h]
theorem dec_step {m : Nat} (h : ¬ m < 10) (s : List UInt8) : decHead m ++ s = decHead (m / 10) ++ (digitB (m / 10) :: s) := by
 have : decHead m = Lib.decDigits (m / 10) := by unfold decHead; rw [if_neg h]
 rw [this, dec_last (m / 10), List.append_assoc]; rfl
theorem dec_end {m : Nat} (h : m < 10) (s : List UInt8) : decHead m ++ s = s := by unfold decHead; rw [if_pos h]; rfl

/-- Lines, each with its end. -/
def downL (ls : List (List UInt8)) : List UInt8 := ls.flatMap fun l => l ++ [10]
theorem downL_succ {ls : List (List UInt8)} {i : Nat} {l : List UInt8} (h : ls[i]? = some l) : downL (ls.take (i + 1)) = downL (ls.take i) ++ (l ++ [10]) := by
 unfold downL; rw [List.take_add_one, h]; simp
theorem split_short (c : UInt8) : ∀ {s l : List UInt8}, l ∈ splitL c s → l.length ≤ s.length
 | [], l, h => by simp [splitL] at h; subst h; simp
 | b :: s, l, h => by
  by_cases hb : b = c
  ·rw [splitL, if_pos hb, List.mem_cons] at h
   rcases h with rfl | h
   ·simp
   ·have := split_short c h; simp only [List.length_cons]; omega
  ·rw [splitL, if_neg hb] at h
   cases hq : splitL c s with
   | nil => exact absurd hq (splitL_ne c s)
   | cons x t =>
    rw [hq] at h
    simp only [List.mem_cons] at h
    rcases h with rfl | h
    ·have := split_short c (s := s) (l := x) (by rw [hq]; simp)
     simp only [List.length_cons]; omega
    ·have := split_short c (s := s) (l := l) (by rw [hq]; simp [h])
     simp only [List.length_cons]; omega
theorem split_count (c : UInt8) : ∀ s : List UInt8, (splitL c s).length ≤ s.length + 1
 | [] => by simp [splitL]
 | b :: s => by
  have := split_count c s
  by_cases hb : b = c
  ·rw [splitL, if_pos hb]; simp only [List.length_cons]; omega
  ·rw [splitL, if_neg hb]
   cases hq : splitL c s with
   | nil => simp
   | cons x t => rw [hq] at this; simp only [List.length_cons] at this ⊢; omega
/-! ### Texts -/
def endL (c : Int) : List UInt8 := [101, 110, 100, 32] ++ Lib.itoa (c / 100) ++ Lib.itoa (c / 10 % 10) ++ Lib.itoa (c % 10)
def textT (b : Book) : List UInt8 := downL (linesT b) ++ (endL (checkT (linesT b)) ++ [10])
/-- All numbers of a book are written with two digits at most. -/
structure TextN (b : Book) : Prop where
 hd : Small [b.editions, b.moves]
 gd : ∀ g, g ∈ b.goods → 0 ≤ g ∧ g ≤ 99
 en : ∀ x, x ∈ b.entries → Small (entN x)
theorem down_glued : ∀ (ls : List (List UInt8)) (e : List UInt8), downL ls ++ (e ++ [10]) = gluedBy 10 (ls ++ [e, []])
 | [], e => by simp [downL, gluedBy]
 | l :: ls, e => by
  have ih := down_glued ls e
  have h1 : ∀ (x : List UInt8) (t : List (List UInt8)), t ≠ [] → gluedBy 10 (x :: t) = x ++ 10 :: gluedBy 10 t := fun x t h => by
   cases t with
   | nil => exact absurd rfl h
   | cons y t => simp [gluedBy]
  rw [List.cons_append, h1 _ _ (by simp), ← ih]
  simp [downL]
theorem text_glued (b : Book) : textT b = gluedBy 10 (linesT b ++ [endL (checkT (linesT b)), []]) := down_glued _ _
theorem check_bd (ls : List (List UInt8)) : 0 ≤ checkT ls ∧ checkT ls ≤ 150 := by unfold checkT; omega
theorem endL_no10 {c : Int} (h : 0 ≤ c) : (10 : UInt8) ∉ endL c := by
 unfold endL
 simp only [List.mem_append, not_or]
 exact ⟨⟨⟨by decide, itoa_no (by omega) (by decide)⟩, itoa_no (by omega) (by decide)⟩, itoa_no (by omega) (by decide)⟩
theorem small_one {g : Int} (h : 0 ≤ g ∧ g ≤ 99) : Small [g] := fun y hy => by simp at hy; subst hy; exact h
theorem lines_no10 {b : Book} (h : TextN b) : ∀ l, l ∈ linesT b → (10 : UInt8) ∉ l := by
 intro l hl
 unfold linesT rowsT at hl
 simp only [List.mem_cons, List.mem_append, List.mem_map] at hl
 rcases hl with rfl | ⟨x, hx, rfl⟩ | ⟨x, hx, rfl⟩
 ·exact line_no10 (by decide) h.hd
 ·exact line_no10 (by decide) (small_one (h.gd x hx))
 ·exact line_no10 (by decide) (h.en x hx)
theorem split_text {b : Book} (h : TextN b) : splitL 10 (textT b) = linesT b ++ [endL (checkT (linesT b)), []] := by
 rw [text_glued]
 refine split_glued (by simp) (fun l hl => ?_)
 rcases List.mem_append.1 hl with hl | hl
 ·exact lines_no10 h l hl
 ·simp only [List.mem_cons, List.mem_nil_iff, or_false] at hl
  rcases hl with rfl | rfl
  ·exact endL_no10 (check_bd _).1
  ·simp
theorem linesT_length (b : Book) : (linesT b).length = b.goods.length + b.entries.length + 1 := by simp [linesT, rowsT]
/-- A text of a book. -/
def TextOf (s : List UInt8) (b : Book) : Prop := TextN b ∧ textT b = s
def lineAt (s : List UInt8) (i : Nat) : List UInt8 := (splitL 10 s).getD i []
def midN (s : List UInt8) : Nat := (splitL 10 s).length - 3
theorem text_len {s : List UInt8} {b : Book} (h : TextOf s b) : (splitL 10 s).length = b.goods.length + b.entries.length + 3 := by
 rw [← h.2, split_text h.1, List.length_append, linesT_length]; rfl
theorem text_line {s : List UInt8} {b : Book} (h : TextOf s b) {i : Nat} (hi : i < b.goods.length + b.entries.length + 1) : lineAt s i = (linesT b).getD i [] := by
 unfold lineAt
 rw [← h.2, split_text h.1, List.getD_eq_getElem?_getD, List.getD_eq_getElem?_getD, List.getElem?_append_left (by rw [linesT_length]; omega)]
theorem text_head {s : List UInt8} {b : Book} (h : TextOf s b) : toldOk wBook 2 (lineAt s 0) = true ∧ toldN (lineAt s 0) = [b.editions, b.moves] := by
 rw [text_line h (by omega)]
 exact line_told (by decide) h.1.hd
/-- Does a line begin with a word? -/
def begins (w l : List UInt8) : Bool := decide (l.take w.length = w)
theorem begins_line (w : List UInt8) (ns : List Int) : begins w (lineT w ns) = true := by
 unfold begins lineT; simp
theorem entry_not (ns : List Int) : begins wGood (lineT wEntry ns) = false := by
 unfold begins lineT wGood wEntry
 rw [decide_eq_false_iff_not]
 intro h
 have := congrArg (fun l => l.getD 0 0) h
 simp at this
theorem text_good {s : List UInt8} {b : Book} (h : TextOf s b) {i : Nat} {g : Int} (hx : b.goods[i]? = some g) : lineAt s (i + 1) = lineT wGood [g] := by
 have hi := (List.getElem?_eq_some_iff.1 hx).1
 rw [text_line h (by omega)]
 unfold linesT rowsT
 rw [List.getD_eq_getElem?_getD, List.getElem?_cons_succ, List.getElem?_append_left (by simpa using hi), List.getElem?_map, hx]; rfl
theorem text_entry {s : List UInt8} {b : Book} (h : TextOf s b) {i : Nat} {x : Int × Int × Int} (hx : b.entries[i]? = some x) : lineAt s (b.goods.length + i + 1) = lineT wEntry (entN x) := by
 have hi := (List.getElem?_eq_some_iff.1 hx).1
 rw [text_line h (by omega)]
 unfold linesT rowsT
 rw [List.getD_eq_getElem?_getD, List.getElem?_cons_succ, List.getElem?_append_right (by simp), List.length_map, Nat.add_sub_cancel_left, List.getElem?_map, hx]; rfl
/-- What the first lines behind the head tell. -/
def goodAt (s : List UInt8) (j : Nat) : List Int := if begins wGood (lineAt s (j + 1)) then [(toldN (lineAt s (j + 1))).getD 0 0] else []
def entAt (s : List UInt8) (j : Nat) : List (Int × Int × Int) := if begins wGood (lineAt s (j + 1)) then [] else [((toldN (lineAt s (j + 1))).getD 0 0, (toldN (lineAt s (j + 1))).getD 1 0, (toldN (lineAt s (j + 1))).getD 2 0)]
def goodsTo (s : List UInt8) (k : Nat) : List Int := (List.range k).flatMap (goodAt s)
def entsTo (s : List UInt8) (k : Nat) : List (Int × Int × Int) := (List.range k).flatMap (entAt s)
theorem goodsTo_succ (s : List UInt8) (k : Nat) : goodsTo s (k + 1) = goodsTo s k ++ goodAt s k := by unfold goodsTo; rw [List.range_succ, List.flatMap_append]; simp
theorem entsTo_succ (s : List UInt8) (k : Nat) : entsTo s (k + 1) = entsTo s k ++ entAt s k := by unfold entsTo; rw [List.range_succ, List.flatMap_append]; simp
def bookTo (s : List UInt8) (k : Nat) : Book := { goods := goodsTo s k, editions := (toldN (lineAt s 0)).getD 0 0, moves := (toldN (lineAt s 0)).getD 1 0, entries := entsTo s k }
def bookOf (s : List UInt8) : Book := bookTo s (midN s)
/-- A line in the middle is as it ought to be. -/
def midOk (s : List UInt8) (j : Nat) : Bool := if begins wGood (lineAt s (j + 1)) then toldOk wGood 1 (lineAt s (j + 1)) else toldOk wEntry 3 (lineAt s (j + 1))
def linesOk (s : List UInt8) : Bool := decide (3 ≤ (splitL 10 s).length) && toldOk wBook 2 (lineAt s 0) && (List.range (midN s)).all (midOk s)
theorem mid_good {s : List UInt8} {b : Book} (h : TextOf s b) {i : Nat} {g : Int} (hx : b.goods[i]? = some g) : midOk s i = true ∧ goodAt s i = [g] ∧ entAt s i = [] := by
 have e := text_good h hx
 have h1 := line_told (word := wGood) (by decide) (small_one (h.1.gd g (List.mem_of_getElem? hx)))
 unfold midOk goodAt entAt
 rw [e, begins_line, if_pos rfl, if_pos rfl, if_pos rfl, h1.2]
 exact ⟨h1.1, rfl, rfl⟩
theorem mid_entry {s : List UInt8} {b : Book} (h : TextOf s b) {i : Nat} {x : Int × Int × Int} (hx : b.entries[i]? = some x) : midOk s (b.goods.length + i) = true ∧ goodAt s (b.goods.length + i) = [] ∧ entAt s (b.goods.length + i) = [x] := by
 have e := text_entry h hx
 have h1 := line_told (word := wEntry) (by decide) (h.1.en x (List.mem_of_getElem? hx))
 unfold midOk goodAt entAt
 rw [e, entry_not, if_neg (by decide), if_neg (by decide), if_neg (by decide), h1.2]
 exact ⟨h1.1, rfl, rfl⟩
theorem to_goods {s : List UInt8} {b : Book} (h : TextOf s b) : ∀ k, k ≤ b.goods.length → goodsTo s k = b.goods.take k ∧ entsTo s k = []
 | 0, _ => by simp [goodsTo, entsTo]
 | k + 1, hk => by
  have ih := to_goods h k (by omega)
  have hx : b.goods[k]? = some b.goods[k] := List.getElem?_eq_getElem (by omega)
  obtain ⟨_, h1, h2⟩ := mid_good h hx
  rw [goodsTo_succ, entsTo_succ, ih.1, ih.2, h1, h2, List.take_add_one, hx]
  exact ⟨rfl, rfl⟩
theorem to_entries {s : List UInt8} {b : Book} (h : TextOf s b) : ∀ k, k ≤ b.entries.length → goodsTo s (b.goods.length + k) = b.goods ∧ entsTo s (b.goods.length + k) = b.entries.take k
 | 0, _ => by
  have := to_goods h b.goods.length (Nat.le_refl _)
  rw [List.take_length] at this
  simpa using this
 | k + 1, hk => by
  have ih := to_entries h k (by omega)
  have hx : b.entries[k]? = some b.entries[k] := List.getElem?_eq_getElem (by omega)
  obtain ⟨_, h1, h2⟩ := mid_entry h hx
  rw [← Nat.add_assoc, goodsTo_succ, entsTo_succ, ih.1, ih.2, h1, h2, List.take_add_one, hx]
  exact ⟨by simp, rfl⟩
theorem text_mid {s : List UInt8} {b : Book} (h : TextOf s b) : midN s = b.goods.length + b.entries.length := by unfold midN; rw [text_len h]; omega
theorem book_text {s : List UInt8} {b : Book} (h : TextOf s b) : bookOf s = b := by
 have h1 := to_entries h b.entries.length (Nat.le_refl _)
 rw [List.take_length] at h1
 have h2 := (text_head h).2
 unfold bookOf bookTo
 rw [text_mid h, h1.1, h1.2, h2]
 rfl
theorem textOf_one {s : List UInt8} {b q : Book} (h : TextOf s b) (k : TextOf s q) : b = q := (book_text h).symm.trans (book_text k)
theorem text_lines {s : List UInt8} {b : Book} (h : TextOf s b) : linesOk s = true := by
 unfold linesOk
 rw [(text_head h).1, decide_eq_true (by rw [text_len h]; omega), Bool.true_and, Bool.true_and, List.all_eq_true]
 intro j hj
 rw [List.mem_range, text_mid h] at hj
 by_cases hg : j < b.goods.length
 ·exact (mid_good h (List.getElem?_eq_getElem hg)).1
 ·obtain ⟨i, rfl⟩ : ∃ i, j = b.goods.length + i := ⟨j - b.goods.length, by omega⟩
  exact (mid_entry h (List.getElem?_eq_getElem (by omega))).1
theorem lineAt_short (s : List UInt8) (i : Nat) : (lineAt s i).length ≤ s.length := by
 unfold lineAt
 rw [List.getD_eq_getElem?_getD]
 cases hq : (splitL 10 s)[i]? with
 | none => simp
 | some l => exact split_short 10 (List.mem_of_getElem? hq)
theorem lineAt_get {s : List UInt8} {i : Nat} (h : i < (splitL 10 s).length) : (splitL 10 s)[i]? = some (lineAt s i) := by
 unfold lineAt
 rw [List.getD_eq_getElem?_getD, List.getElem?_eq_getElem h]; rfl
theorem getD_small {ns : List Int} (h : Small ns) (i : Nat) : 0 ≤ ns.getD i 0 ∧ ns.getD i 0 ≤ 99 := by
 rw [List.getD_eq_getElem?_getD]
 cases hx : ns[i]? with
 | none => simp
 | some y => exact h y (List.mem_of_getElem? hx)
theorem mid_small {s : List UInt8} {j : Nat} (h : midOk s j = true) : Small (toldN (lineAt s (j + 1))) := by
 unfold midOk at h
 split at h <;> exact (told_line h).2.1
theorem bookTo_small {s : List UInt8} (h0 : toldOk wBook 2 (lineAt s 0) = true) {k : Nat} (h : ∀ j, j < k → midOk s j = true) : TextN (bookTo s k) := by
 have hh := told_line h0
 refine ⟨fun y hy => ?_, fun g hg => ?_, fun x hx => ?_⟩
 ·simp only [bookTo, List.mem_cons, List.mem_nil_iff, or_false] at hy
  rcases hy with rfl | rfl <;> exact getD_small hh.2.1 _
 ·obtain ⟨j, hj, hg⟩ := List.mem_flatMap.1 hg
  have := mid_small (h j (List.mem_range.1 hj))
  unfold goodAt at hg
  split at hg
  ·simp at hg; subst hg; exact getD_small this 0
  ·simp at hg
 ·obtain ⟨j, hj, hx⟩ := List.mem_flatMap.1 hx
  have := mid_small (h j (List.mem_range.1 hj))
  unfold entAt at hx
  split at hx
  ·simp at hx
  ·rw [List.mem_singleton] at hx
   subst hx
   intro y hy
   simp only [entN, List.mem_cons, List.mem_nil_iff, or_false] at hy
   rcases hy with rfl | rfl | rfl <;> exact getD_small this _
theorem lines_parts {s : List UInt8} (h : linesOk s = true) : 3 ≤ (splitL 10 s).length ∧ toldOk wBook 2 (lineAt s 0) = true ∧ ∀ j, j < midN s → midOk s j = true := by
 unfold linesOk at h
 simp only [Bool.and_eq_true, decide_eq_true_eq, List.all_eq_true, List.mem_range] at h
 exact ⟨h.1.1, h.1.2, h.2⟩
/-- Is it a text? -/
def isTextB (s : List UInt8) : Bool := linesOk s && decide (textT (bookOf s) = s)
theorem isText_iff {s : List UInt8} : isTextB s = true ↔ TextOf s (bookOf s) := by
 unfold isTextB
 rw [Bool.and_eq_true, decide_eq_true_eq]
 constructor
 ·rintro ⟨h1, h2⟩
  obtain ⟨_, h3, h4⟩ := lines_parts h1
  exact ⟨bookTo_small h3 h4, h2⟩
 ·intro h
  exact ⟨text_lines h, h.2⟩
theorem isText_of {s : List UInt8} {b : Book} (h : TextOf s b) : isTextB s = true ∧ bookOf s = b := ⟨isText_iff.2 (by rw [book_text h]; exact h), book_text h⟩
/-! ### Its length -/
theorem goodsTo_len (s : List UInt8) : ∀ k, (goodsTo s k).length + (entsTo s k).length = k
 | 0 => by simp [goodsTo, entsTo]
 | k + 1 => by
  have ih := goodsTo_len s k
  rw [goodsTo_succ, entsTo_succ, List.length_append, List.length_append]
  unfold goodAt entAt
  split <;> simp <;> omega
theorem mid_bd (s : List UInt8) : midN s ≤ s.length := by have := split_count 10 s; unfold midN; omega
theorem itoa_len2 {n : Int} (h0 : 0 ≤ n) (h1 : n ≤ 99) : (Lib.itoa n).length ≤ 2 := (num_ok (num_itoa h0 h1).1).2.2.2.2.1
theorem numsT_small {ns : List Int} (h : Small ns) : (numsT ns).length ≤ 3 * ns.length := by
 induction ns with
 | nil => simp [numsT]
 | cons x ns ih =>
  have h1 := h x (by simp)
  have h2 := itoa_len2 h1.1 h1.2
  have h3 := ih (fun y hy => h y (by simp [hy]))
  have h4 : numsT (x :: ns) = (32 :: Lib.itoa x) ++ numsT ns := by simp [numsT]
  rw [h4, List.length_append, List.length_cons, List.length_cons]; omega
theorem lineT_small {word : List UInt8} {ns : List Int} (h : Small ns) : (lineT word ns).length ≤ word.length + 3 * ns.length := by
 unfold lineT; rw [List.length_append]; have := numsT_small h; omega
theorem lineT_step (word : List UInt8) {ns : List Int} {k : Nat} {y : Int} (hy : ns[k]? = some y) : lineT word (ns.take (k + 1)) = lineT word (ns.take k) ++ (32 :: Lib.itoa y) := by
 unfold lineT numsT; rw [List.take_add_one, hy]; simp
theorem lines_short {b : Book} (h : TextN b) : ∀ l, l ∈ linesT b → l.length ≤ 20 := by
 intro l hl
 unfold linesT rowsT at hl
 simp only [List.mem_cons, List.mem_append, List.mem_map] at hl
 rcases hl with rfl | ⟨x, hx, rfl⟩ | ⟨x, hx, rfl⟩
 ·have := lineT_small (word := wBook) h.hd; simp [wBook] at this ⊢; omega
 ·have := lineT_small (word := wGood) (small_one (h.gd x hx)); simp [wGood] at this ⊢; omega
 ·have := lineT_small (word := wEntry) (h.en x hx); simp [wEntry, entN] at this ⊢; omega
theorem down_len : ∀ {ls : List (List UInt8)} {n : Nat}, (∀ l, l ∈ ls → l.length ≤ n) → (downL ls).length ≤ (n + 1) * ls.length
 | [], _, _ => by simp [downL]
 | l :: ls, n, h => by
  have h1 := h l (by simp)
  have h2 := down_len (ls := ls) (n := n) (fun x hx => h x (by simp [hx]))
  have h3 : downL (l :: ls) = (l ++ [10]) ++ downL ls := by simp [downL]
  rw [h3, List.length_append, List.length_append, List.length_singleton, List.length_cons, Nat.mul_add]; omega
theorem lineSum_bd (i : Nat) (l : List UInt8) : ∀ k : Nat, 0 ≤ lineSum i l k ∧ lineSum i l k ≤ 255 * (k * (k * (i + 1)))
 | 0 => by simp [lineSum]
 | k + 1 => by
  have ih := lineSum_bd i l k
  have hb : ((l.getD k 0).toNat : Int) ≤ 255 := by have := (l.getD k 0).toNat_lt; omega
  have h0 : (0 : Int) ≤ ((l.getD k 0).toNat : Int) := by omega
  have e : ((l.getD k 0).toNat : Int) * ((k : Int) + 1) * ((i : Int) + 1) = ((l.getD k 0).toNat : Int) * (((k : Int) + 1) * ((i : Int) + 1)) := Int.mul_assoc _ _ _
  have hp : (0 : Int) ≤ ((k : Int) + 1) * ((i : Int) + 1) := Int.mul_nonneg (by omega) (by omega)
  have h1 : ((l.getD k 0).toNat : Int) * (((k : Int) + 1) * ((i : Int) + 1)) ≤ 255 * (((k : Int) + 1) * ((i : Int) + 1)) := Int.mul_le_mul_of_nonneg_right hb hp
  have h2 : 0 ≤ ((l.getD k 0).toNat : Int) * (((k : Int) + 1) * ((i : Int) + 1)) := Int.mul_nonneg h0 hp
  unfold lineSum
  rw [e]
  push_cast
  have h3 : (k : Int) * ((k : Int) * ((i : Int) + 1)) + ((k : Int) + 1) * ((i : Int) + 1) ≤ ((k : Int) + 1) * (((k : Int) + 1) * ((i : Int) + 1)) := by
   have a1 : ((k : Int) + 1) * (((k : Int) + 1) * ((i : Int) + 1)) = (k : Int) * (((k : Int) + 1) * ((i : Int) + 1)) + ((k : Int) + 1) * ((i : Int) + 1) := by rw [Int.add_mul, Int.one_mul]
   have a2 : (k : Int) * ((k : Int) * ((i : Int) + 1)) ≤ (k : Int) * (((k : Int) + 1) * ((i : Int) + 1)) := Int.mul_le_mul_of_nonneg_left (Int.mul_le_mul_of_nonneg_right (by omega) (by omega)) (by omega)
   omega
  omega
/-- How splitting goes on at one byte more. -/
def SplitAt (c : UInt8) (s : List UInt8) (i : Nat) (out : List (List UInt8)) (from_ : Nat) : Prop := from_ ≤ i ∧ splitL c (s.take i) = out ++ [(s.take i).drop from_]
theorem splitAt_zero (c : UInt8) (s : List UInt8) : SplitAt c s 0 [] 0 := ⟨Nat.le_refl _, by simp [splitL]⟩
theorem splitAt_hit {c : UInt8} {s : List UInt8} {i : Nat} {out : List (List UInt8)} {f : Nat} (h : SplitAt c s i out f) (hi : s[i]? = some c) : SplitAt c s (i + 1) (out ++ [(s.take i).drop f]) (i + 1) := by
 obtain ⟨h1, h2⟩ := h
 refine ⟨Nat.le_refl _, ?_⟩
 rw [List.take_add_one, hi, Option.toList_some, splitL_snoc, if_pos rfl, h2]
 have hl := (List.getElem?_eq_some_iff.1 hi).1
 have : (s.take i ++ [c]).drop (i + 1) = [] := by rw [List.drop_eq_nil_iff]; simp; omega
 rw [this]
theorem splitAt_miss {c b : UInt8} {s : List UInt8} {i : Nat} {out : List (List UInt8)} {f : Nat} (h : SplitAt c s i out f) (hi : s[i]? = some b) (hb : b ≠ c) : SplitAt c s (i + 1) out f := by
 obtain ⟨h1, h2⟩ := h
 refine ⟨by omega, ?_⟩
 have hl := (List.getElem?_eq_some_iff.1 hi).1
 rw [List.take_add_one, hi, Option.toList_some, splitL_snoc, if_neg hb, h2, List.drop_append_of_le_length (by simp; omega)]
 simp
theorem splitAt_end {c : UInt8} {s : List UInt8} {out : List (List UInt8)} {f : Nat} (h : SplitAt c s s.length out f) : splitL c s = out ++ [s.drop f] := by
 have := h.2
 rwa [List.take_of_length_le (Nat.le_refl _)] at this
theorem splitAt_len {c : UInt8} {s : List UInt8} {i : Nat} {out : List (List UInt8)} {f : Nat} (h : SplitAt c s i out f) (_hi : i ≤ s.length) : out.length ≤ i := by
 have h1 := split_count c (s.take i)
 rw [h.2] at h1
 simp at h1
 omega
end Go.Proofs.YtokananogogjaaaGreatDoor
