/- Texts in plain Lean: splitting, numbers, lines; what a text tells of its book. -/
import Derived.Test.YtdmdabhdcpjkiaaGreatDoorPrint
import Derived.Lib.SplitLaws
namespace Go.Proofs.YtdmdabhdcpjkiaaGreatDoor
open Go.RowKit

/-! ### Splitting at one byte -/
def splitL (c : UInt8) : List UInt8 → List (List UInt8)
 | [] => [[]]
 | b :: l => if b = c then [] :: splitL c l else match splitL c l with | [] => [[b]] | h :: t => (b :: h) :: t
theorem splitL_ne (c : UInt8) : ∀ s : List UInt8, splitL c s ≠ []
 | [] => by simp [splitL]
 | b :: l => by
  unfold splitL
  split
  ·simp
  ·split <;> simp
theorem splitL_eq (c : UInt8) : ∀ s : List UInt8, Lib.splitK [c] 0 (Lib.count s [c]) s = splitL c s
 | [] => by
  have : Lib.count [] [c] = 0 := Lib.count_miss (by simp [Lib.index])
  rw [this]; rfl
 | b :: l => by
  have ih := splitL_eq c l
  by_cases h : b = c
  ·subst h
   have hix : Lib.index (b :: l) [b] = ((0 : Nat) : Int) := by rw [Lib.index]; simp [List.isPrefixOf]
   rw [Lib.count_cons_eq, Nat.add_comm, Lib.splitK, hix]
   simp [splitL, ih]
  ·have hp : ([c] : List UInt8).isPrefixOf (b :: l) = false := by simp [List.isPrefixOf, Ne.symm h]
   have hix : Lib.index (b :: l) [c] = if Lib.index l [c] == -1 then -1 else Lib.index l [c] + 1 := by rw [Lib.index, hp]; simp
   rw [Lib.count_cons_ne b c l h]
   unfold splitL
   rw [if_neg h, ← ih]
   by_cases hm : Lib.index l [c] = -1
   ·rw [Lib.count_miss hm]; rfl
   ·have hge := Lib.index_ge l [c]
    obtain ⟨j, hj⟩ : ∃ j : Nat, Lib.index l [c] = j := ⟨(Lib.index l [c]).toNat, by omega⟩
    have hix' : Lib.index (b :: l) [c] = ((j + 1 : Nat) : Int) := by rw [hix, if_neg (fun e => hm (beq_iff_eq.1 e)), hj]; omega
    rw [Lib.count_hit (by simp) hj, Nat.add_comm, Lib.splitK, Lib.splitK, hix', hj]
    have n1 : (((j + 1 : Nat) : Int) == -1) = false := by rw [beq_eq_false_iff_ne]; omega
    have n2 : ((j : Int) == -1) = false := by rw [beq_eq_false_iff_ne]; omega
    rw [n1, n2]
    simp
theorem splitL_snoc (c b : UInt8) : ∀ s : List UInt8, splitL c (s ++ [b]) = if b = c then splitL c s ++ [[]] else (splitL c s).dropLast ++ [((splitL c s).getLastD []) ++ [b]]
 | [] => by
  by_cases h : b = c
  ·subst h; simp [splitL]
  ·simp [splitL, h]
 | x :: s => by
  have ih := splitL_snoc c b s
  obtain ⟨h0, t0, hs⟩ : ∃ h t, splitL c s = h :: t := by
   cases hq : splitL c s with
   | nil => exact absurd hq (splitL_ne c s)
   | cons h t => exact ⟨h, t, rfl⟩
  rw [List.cons_append]
  by_cases hx : x = c
  ·subst hx
   rw [show splitL x (x :: (s ++ [b])) = [] :: splitL x (s ++ [b]) by rw [splitL, if_pos rfl], show splitL x (x :: s) = [] :: splitL x s by rw [splitL, if_pos rfl], ih]
   by_cases h : b = x
   ·rw [if_pos h, if_pos h]; rfl
   ·rw [if_neg h, if_neg h, hs]; simp
  ·have e1 : splitL c (x :: s) = (x :: h0) :: t0 := by rw [splitL, if_neg hx, hs]
   rw [e1, splitL, if_neg hx, ih, hs]
   by_cases h : b = c
   ·rw [if_pos h, if_pos h]; simp
   ·rw [if_neg h, if_neg h]
    cases t0 with
    | nil => simp
    | cons y t => simp
/-- Pieces, joined again. -/
def gluedBy (c : UInt8) : List (List UInt8) → List UInt8
 | [] => []
 | [l] => l
 | l :: m :: t => l ++ c :: gluedBy c (m :: t)
theorem glued_split (c : UInt8) : ∀ s : List UInt8, gluedBy c (splitL c s) = s
 | [] => rfl
 | b :: l => by
  have ih := glued_split c l
  obtain ⟨h0, t0, hs⟩ : ∃ h t, splitL c l = h :: t := by
   cases hq : splitL c l with
   | nil => exact absurd hq (splitL_ne c l)
   | cons h t => exact ⟨h, t, rfl⟩
  rw [hs] at ih
  by_cases hb : b = c
  ·subst hb
   rw [splitL, if_pos rfl, hs, gluedBy, ih]; rfl
  ·rw [splitL, if_neg hb, hs]
   cases t0 with
   | nil => simp only [gluedBy] at ih ⊢; rw [ih]
   | cons y t => simp only [gluedBy] at ih ⊢; rw [List.cons_append, ih]
theorem split_whole {c : UInt8} : ∀ {l : List UInt8}, c ∉ l → splitL c l = [l]
 | [], _ => rfl
 | b :: l, h => by
  have hb : b ≠ c := fun e => h (by simp [e])
  rw [splitL, if_neg hb, split_whole (fun hm => h (by simp [hm]))]
theorem split_app {c : UInt8} {s : List UInt8} : ∀ {l : List UInt8}, c ∉ l → splitL c (l ++ c :: s) = l :: splitL c s
 | [], _ => by rw [List.nil_append, splitL, if_pos rfl]
 | b :: l, h => by
  have hb : b ≠ c := fun e => h (by simp [e])
  rw [List.cons_append, splitL, if_neg hb, split_app (fun hm => h (by simp [hm]))]
theorem split_glued {c : UInt8} : ∀ {ls : List (List UInt8)}, ls ≠ [] → (∀ l, l ∈ ls → c ∉ l) → splitL c (gluedBy c ls) = ls
 | [], h, _ => absurd rfl h
 | [l], _, h => split_whole (h l (by simp))
 | l :: m :: t, _, h => by
  rw [gluedBy, split_app (h l (by simp)), split_glued (by simp) (fun x hx => h x (by simp [hx]))]
theorem split_no (c : UInt8) : ∀ {s l : List UInt8}, l ∈ splitL c s → c ∉ l
 | [], l, h => by simp [splitL] at h; subst h; simp
 | b :: s, l, h => by
  by_cases hb : b = c
  ·rw [splitL, if_pos hb, List.mem_cons] at h
   rcases h with rfl | h
   ·simp
   ·exact split_no c h
  ·rw [splitL, if_neg hb] at h
   cases hq : splitL c s with
   | nil => exact absurd hq (splitL_ne c s)
   | cons x t =>
    rw [hq] at h
    simp only [List.mem_cons] at h
    rcases h with rfl | h
    ·have := split_no c (s := s) (l := x) (by rw [hq]; simp)
     simp only [List.mem_cons, not_or]
     exact ⟨fun e => hb e.symm, this⟩
    ·exact split_no c (s := s) (by rw [hq]; simp [h])

/-! ### Numbers -/
def digB (b : UInt8) : Bool := decide (48 ≤ b.toNat) && decide (b.toNat ≤ 57)
def valT (l : List UInt8) : Int := l.foldl (fun n b => 10 * n + ((b.toNat : Int) - 48)) 0
theorem valT_snoc (l : List UInt8) (b : UInt8) : valT (l ++ [b]) = 10 * valT l + ((b.toNat : Int) - 48) := by unfold valT; rw [List.foldl_append]; rfl
def numOk (l : List UInt8) : Bool := decide (l ≠ []) && decide (l.length ≤ 3) && l.all digB && decide (Lib.itoa (valT l) = l)
theorem digits_dec : ∀ u : Nat, (Lib.decDigits u).all digB = true ∧ valT (Lib.decDigits u) = u ∧ Lib.decDigits u ≠ [] := by
 intro u
 induction u using Nat.strongRecOn with
 | _ u ih =>
  have hd : ∀ k : Nat, k < 10 → digB (UInt8.ofNat (48 + k)) = true ∧ (UInt8.ofNat (48 + k)).toNat = 48 + k := fun k hk => by
   have : (UInt8.ofNat (48 + k)).toNat = 48 + k := by rw [UInt8.toNat_ofNat']; omega
   refine ⟨?_, this⟩
   unfold digB; rw [this]; simp; omega
  rw [Lib.decDigits]
  by_cases h : u < 10
  ·rw [dif_pos h]
   obtain ⟨h1, h2⟩ := hd u h
   refine ⟨by rw [List.all_cons, h1]; rfl, ?_, by simp⟩
   show 10 * 0 + (((UInt8.ofNat (48 + u)).toNat : Int) - 48) = u
   rw [h2]; omega
  ·rw [dif_neg h]
   obtain ⟨i1, i2, _⟩ := ih (u / 10) (by omega)
   obtain ⟨h1, h2⟩ := hd (u % 10) (by omega)
   refine ⟨by rw [List.all_append, i1, List.all_cons, h1]; rfl, ?_, by simp⟩
   rw [valT_snoc, i2, h2]; omega
theorem dec_len : ∀ (k u : Nat), 1 ≤ k → u < 10 ^ k → (Lib.decDigits u).length ≤ k
 | 0, _, h, _ => by omega
 | k + 1, u, _, hu => by
  rw [Lib.decDigits]
  by_cases h : u < 10
  ·rw [dif_pos h]; simp
  ·rw [dif_neg h, List.length_append, List.length_singleton]
   have h1 : u / 10 < 10 ^ k := by rw [Nat.pow_succ] at hu; omega
   cases k with
   | zero => simp at h1; omega
   | succ k => have := dec_len (k + 1) (u / 10) (by omega) h1; omega
theorem num_itoa {n : Int} (h0 : 0 ≤ n) (h1 : n ≤ 999) : numOk (Lib.itoa n) = true ∧ valT (Lib.itoa n) = n := by
 obtain ⟨u, rfl⟩ := Int.eq_ofNat_of_zero_le h0
 rw [Lib.itoa_nonneg]
 obtain ⟨d1, d2, d3⟩ := digits_dec u
 refine ⟨?_, d2⟩
 have hl := dec_len 3 u (by omega) (by omega)
 unfold numOk
 rw [d1, d2, Lib.itoa_nonneg]
 simp [d3, hl]
theorem val_bd : ∀ {l : List UInt8}, l.all digB = true → ∀ k, 0 ≤ valT (l.take k) ∧ valT (l.take k) < 10 ^ (l.take k).length := by
 intro l h k
 induction k with
 | zero => simp [valT]
 | succ k ih =>
  cases hk : l[k]? with
  | none => rw [List.take_add_one, hk]; simpa using ih
  | some b =>
   rw [List.take_add_one, hk, Option.toList_some, valT_snoc, List.length_append, List.length_singleton, Int.pow_succ]
   rw [List.all_eq_true] at h
   have := h b (List.mem_of_getElem? hk)
   simp only [digB, Bool.and_eq_true, decide_eq_true_eq] at this
   omega
theorem pow10_le {k : Nat} (h : k ≤ 3) : (10 : Int) ^ k ≤ 1000 := by
 rcases (show k = 0 ∨ k = 1 ∨ k = 2 ∨ k = 3 by omega) with rfl | rfl | rfl | rfl <;> decide
theorem num_ok {l : List UInt8} (h : numOk l = true) : 0 ≤ valT l ∧ valT l ≤ 999 ∧ Lib.itoa (valT l) = l ∧ l ≠ [] ∧ l.length ≤ 3 ∧ l.all digB = true := by
 unfold numOk at h
 simp only [Bool.and_eq_true, decide_eq_true_eq] at h
 obtain ⟨⟨⟨h1, h2⟩, h3⟩, h4⟩ := h
 have hb := val_bd h3 l.length
 rw [List.take_of_length_le (Nat.le_refl _)] at hb
 have h5 := pow10_le h2
 exact ⟨hb.1, by omega, h4, h1, h2, h3⟩

/-! ### Lines -/
def toldOk (word : List UInt8) (many : Nat) (s : List UInt8) : Bool := decide ((splitL 32 s).length = many + 1) && decide ((splitL 32 s).headD [] = word) && ((splitL 32 s).drop 1).all numOk
def toldN (s : List UInt8) : List Int := ((splitL 32 s).drop 1).map valT
def Small (ns : List Int) : Prop := ∀ y, y ∈ ns → 0 ≤ y ∧ y ≤ 999
theorem glued_nums : ∀ (w : List UInt8) (ws : List (List UInt8)), (∀ x, x ∈ ws → numOk x = true) → gluedBy 32 (w :: ws) = lineT w (ws.map valT)
 | w, [], _ => by simp [gluedBy, lineT, numsT]
 | w, x :: ws, h => by
  rw [gluedBy, glued_nums x ws (fun y hy => h y (by simp [hy]))]
  have hx := (num_ok (h x (by simp))).2.2.1
  simp [lineT, numsT, hx]
theorem told_line {word : List UInt8} {many : Nat} {s : List UInt8} (h : toldOk word many s = true) : (toldN s).length = many ∧ Small (toldN s) ∧ s = lineT word (toldN s) := by
 unfold toldOk at h
 simp only [Bool.and_eq_true, decide_eq_true_eq, List.all_eq_true] at h
 obtain ⟨⟨h1, h2⟩, h3⟩ := h
 refine ⟨by unfold toldN; rw [List.length_map, List.length_drop]; omega, fun y hy => ?_, ?_⟩
 ·unfold toldN at hy
  obtain ⟨x, hx, rfl⟩ := List.mem_map.1 hy
  have := num_ok (h3 x hx)
  exact ⟨this.1, this.2.1⟩
 ·have hg := glued_split 32 s
  cases hq : splitL 32 s with
  | nil => exact absurd hq (splitL_ne 32 s)
  | cons w ws =>
   rw [hq] at hg h2 h3
   simp only [List.headD_cons, List.drop_succ_cons, List.drop_zero] at h2 h3
   subst h2
   rw [glued_nums w ws h3] at hg
   unfold toldN
   rw [hq]
   exact hg.symm
theorem itoa_no {n : Int} (h : 0 ≤ n) {b : UInt8} (hb : b.toNat < 48) : b ∉ Lib.itoa n := by
 obtain ⟨u, rfl⟩ := Int.eq_ofNat_of_zero_le h
 rw [Lib.itoa_nonneg]
 intro hm
 have h1 := (digits_dec u).1
 rw [List.all_eq_true] at h1
 have := h1 b hm
 simp only [digB, Bool.and_eq_true, decide_eq_true_eq] at this
 omega
theorem split_line {word : List UInt8} (hw : (32 : UInt8) ∉ word) : ∀ {ns : List Int}, Small ns → splitL 32 (lineT word ns) = word :: ns.map Lib.itoa
 | [], _ => by simp only [lineT, numsT, List.flatMap_nil, List.append_nil, List.map_nil]; exact split_whole hw
 | n :: ns, h => by
  have e : lineT word (n :: ns) = word ++ 32 :: lineT (Lib.itoa n) ns := by simp [lineT, numsT]
  rw [e, split_app hw, split_line (itoa_no (h n (by simp)).1 (by decide)) (fun y hy => h y (by simp [hy]))]
  rfl
theorem line_told {word : List UInt8} (hw : (32 : UInt8) ∉ word) {ns : List Int} (h : Small ns) : toldOk word ns.length (lineT word ns) = true ∧ toldN (lineT word ns) = ns := by
 unfold toldOk toldN
 rw [split_line hw h]
 constructor
 ·simp only [List.length_cons, List.length_map, decide_true, List.headD_cons, List.drop_succ_cons, List.drop_zero, Bool.true_and, List.all_map, List.all_eq_true]
  intro y hy
  exact (num_itoa (h y hy).1 (h y hy).2).1
 ·simp only [List.drop_succ_cons, List.drop_zero, List.map_map]
  conv => rhs; rw [← List.map_id ns]
  refine List.map_congr_left fun y hy => ?_
  exact (num_itoa (h y hy).1 (h y hy).2).2
theorem line_no10 {word : List UInt8} (hw : (10 : UInt8) ∉ word) {ns : List Int} (h : Small ns) : (10 : UInt8) ∉ lineT word ns := by
 unfold lineT numsT
 rw [List.mem_append, List.mem_flatMap]
 rintro (h1 | ⟨y, hy, h1⟩)
 ·exact hw h1
 ·rcases List.mem_cons.1 h1 with h2 | h2
  ·cases h2
  ·exact itoa_no (h y hy).1 (by decide) h2
/-! ### Texts -/
/-- All numbers of a book are written with three digits at most, and each river has as many spans as there are years. -/
structure TextN (b : Book) : Prop where
 hd : Small [b.years, (b.rivers.length : Int)]
 rv : ∀ r, r ∈ b.rivers → Small r.nums
 gr : ∀ r, r ∈ b.rivers → (r.grow.length : Int) = b.years
theorem join_glued : ∀ ls : List (List UInt8), Lib.join ls [10] = gluedBy 10 ls
 | [] => rfl
 | [l] => by simp [Lib.join, gluedBy]
 | l :: m :: t => by
  rw [gluedBy, ← join_glued (m :: t)]
  simp [Lib.join]
def endL (c : Int) : List UInt8 := [101, 110, 100, 32] ++ Lib.itoa (c / 100) ++ Lib.itoa (c / 10 % 10) ++ Lib.itoa (c % 10)
theorem glued_more : ∀ (ls : List (List UInt8)) (e : List UInt8), ls ≠ [] → gluedBy 10 ls ++ 10 :: e = gluedBy 10 (ls ++ [e])
 | [], _, h => absurd rfl h
 | [l], e, _ => by simp [gluedBy]
 | l :: m :: t, e, _ => by
  have := glued_more (m :: t) e (by simp)
  rw [gluedBy, List.append_assoc, List.cons_append, this]
  rfl
theorem text_glued (b : Book) : textT b = gluedBy 10 (linesT b ++ [endL (checkT (linesT b)), []]) := by
 have hne : linesT b ≠ [] := by unfold linesT; simp
 have h1 := glued_more (linesT b) (endL (checkT (linesT b))) hne
 have h2 := glued_more (linesT b ++ [endL (checkT (linesT b))]) [] (by simp)
 rw [List.append_assoc] at h2
 rw [show ([endL (checkT (linesT b)), []] : List (List UInt8)) = [endL (checkT (linesT b))] ++ [[]] from rfl, ← h2, ← h1]
 unfold textT endT endL
 rw [join_glued]
 simp
theorem check_bd (ls : List (List UInt8)) : 0 ≤ checkT ls ∧ checkT ls ≤ 130 := by unfold checkT; omega
theorem endL_no10 {c : Int} (h : 0 ≤ c) : (10 : UInt8) ∉ endL c := by
 unfold endL
 simp only [List.mem_append, not_or]
 exact ⟨⟨⟨by decide, itoa_no (by omega) (by decide)⟩, itoa_no (by omega) (by decide)⟩, itoa_no (by omega) (by decide)⟩
theorem lines_no10 {b : Book} (h : TextN b) : ∀ l, l ∈ linesT b → (10 : UInt8) ∉ l := by
 intro l hl
 unfold linesT at hl
 simp only [List.mem_cons, List.mem_map] at hl
 rcases hl with rfl | ⟨x, hx, rfl⟩
 ·exact line_no10 (by decide) h.hd
 ·exact line_no10 (by decide) (h.rv x hx)
theorem split_text {b : Book} (h : TextN b) : splitL 10 (textT b) = linesT b ++ [endL (checkT (linesT b)), []] := by
 rw [text_glued]
 refine split_glued (by simp) (fun l hl => ?_)
 rcases List.mem_append.1 hl with hl | hl
 ·exact lines_no10 h l hl
 ·simp only [List.mem_cons, List.mem_nil_iff, or_false] at hl
  rcases hl with rfl | rfl
  ·exact endL_no10 (check_bd _).1
  ·simp
theorem linesT_length (b : Book) : (linesT b).length = b.rivers.length + 1 := by simp [linesT]
/-- A text of a book. -/
def TextOf (s : List UInt8) (b : Book) : Prop := TextN b ∧ textT b = s
def lineAt (s : List UInt8) (i : Nat) : List UInt8 := (splitL 10 s).getD i []
theorem text_len {s : List UInt8} {b : Book} (h : TextOf s b) : (splitL 10 s).length = b.rivers.length + 3 := by
 rw [← h.2, split_text h.1, List.length_append, linesT_length]; rfl
theorem text_line {s : List UInt8} {b : Book} (h : TextOf s b) {i : Nat} (hi : i < b.rivers.length + 1) : lineAt s i = (linesT b).getD i [] := by
 unfold lineAt
 rw [← h.2, split_text h.1, List.getD_eq_getElem?_getD, List.getD_eq_getElem?_getD, List.getElem?_append_left (by rw [linesT_length]; omega)]
theorem text_head {s : List UInt8} {b : Book} (h : TextOf s b) : toldOk wBook 2 (lineAt s 0) = true ∧ toldN (lineAt s 0) = [b.years, (b.rivers.length : Int)] := by
 rw [text_line h (by omega)]
 exact line_told (by decide) h.1.hd
theorem text_river {s : List UInt8} {b : Book} (h : TextOf s b) {i : Nat} {x : River} (hx : b.rivers[i]? = some x) : toldOk wRiver (2 * x.grow.length + 2) (lineAt s (i + 1)) = true ∧ toldN (lineAt s (i + 1)) = x.nums := by
 have hi := (List.getElem?_eq_some_iff.1 hx).1
 have e : (linesT b).getD (i + 1) [] = lineT wRiver x.nums := by
  unfold linesT
  rw [List.getD_eq_getElem?_getD, List.getElem?_cons_succ, List.getElem?_map, hx]; rfl
 rw [text_line h (by omega), e, show 2 * x.grow.length + 2 = x.nums.length by rw [nums_length]; omega]
 exact line_told (by decide) (h.1.rv x (List.mem_of_getElem? hx))
/-- The spans of a line of numbers, the first two left out. -/
def tellG (ns : List Int) (k : Nat) : List (Int × Int) := (List.range k).map fun j => (ns.getD (2 * j + 2) 0, ns.getD (2 * j + 3) 0)
def tellR (ns : List Int) (k : Nat) : River := { vary := ns.getD 0 0, closed := ns.getD 1 0, grow := tellG ns k }
theorem tellG_len (ns : List Int) (k : Nat) : (tellG ns k).length = k := by simp [tellG]
theorem tellG_succ (ns : List Int) (k : Nat) : tellG ns (k + 1) = tellG ns k ++ [(ns.getD (2 * k + 2) 0, ns.getD (2 * k + 3) 0)] := by unfold tellG; rw [List.range_succ]; simp
theorem pairs_get : ∀ (l : List (Int × Int)) (j : Nat), (l.flatMap fun s => [s.1, s.2]).getD (2 * j) 0 = (l.getD j (0, 0)).1 ∧ (l.flatMap fun s => [s.1, s.2]).getD (2 * j + 1) 0 = (l.getD j (0, 0)).2
 | [], j => by simp
 | x :: l, 0 => by simp
 | x :: l, j + 1 => by
  have ih := pairs_get l j
  rw [List.flatMap_cons, show 2 * (j + 1) = 2 * j + 1 + 1 by omega]
  simpa using ih
theorem tellR_nums (x : River) : tellR x.nums x.grow.length = x := by
 obtain ⟨g, v, c⟩ := x
 unfold tellR
 congr 1
 refine List.ext_getElem (by rw [tellG_len]) fun i hi hj => ?_
 have h := pairs_get g i
 simp only [tellG, List.getElem_map, List.getElem_range, River.nums]
 rw [show 2 * i + 2 = 2 * i + 1 + 1 by omega, show 2 * i + 3 = 2 * i + 1 + 1 + 1 by omega]
 simp only [List.getD_cons_succ]
 rw [h.1, h.2]
 simp [List.getD, hj]
theorem textOf_one {s : List UInt8} {b q : Book} (h : TextOf s b) (k : TextOf s q) : b = q := by
 have h0 := (text_head h).2.symm.trans (text_head k).2
 simp only [List.cons.injEq, and_true] at h0
 have hl : b.rivers.length = q.rivers.length := by omega
 have hh : b.rivers = q.rivers := by
  refine List.ext_getElem hl fun i hi hj => ?_
  have a := (text_river h (List.getElem?_eq_getElem hi)).2
  have c := (text_river k (List.getElem?_eq_getElem hj)).2
  have g1 := h.1.gr _ (List.getElem_mem hi)
  have g2 := k.1.gr _ (List.getElem_mem hj)
  rw [← tellR_nums b.rivers[i], ← tellR_nums q.rivers[i], ← a, ← c, show (b.rivers[i]).grow.length = (q.rivers[i]).grow.length by omega]
 cases b; cases q
 simp only at h0 hh
 obtain ⟨rfl, _⟩ := h0
 subst hh
 rfl
/-! ### What a text's lines tell, put together -/
theorem split_short (c : UInt8) : ∀ {s l : List UInt8}, l ∈ splitL c s → l.length ≤ s.length
 | [], l, h => by simp [splitL] at h; subst h; simp
 | b :: s, l, h => by
  by_cases hb : b = c
  ·rw [splitL, if_pos hb, List.mem_cons] at h
   rcases h with rfl | h
   ·simp
   ·have := split_short c h; simp only [List.length_cons]; omega
  ·rw [splitL, if_neg hb] at h
   cases hq : splitL c s with
   | nil => exact absurd hq (splitL_ne c s)
   | cons x t =>
    rw [hq] at h
    simp only [List.mem_cons] at h
    rcases h with rfl | h
    ·have := split_short c (s := s) (l := x) (by rw [hq]; simp)
     simp only [List.length_cons]; omega
    ·have := split_short c (s := s) (l := l) (by rw [hq]; simp [h])
     simp only [List.length_cons]; omega
theorem split_count (c : UInt8) : ∀ s : List UInt8, (splitL c s).length ≤ s.length + 1
 | [] => by simp [splitL]
 | b :: s => by
  have := split_count c s
  by_cases hb : b = c
  ·rw [splitL, if_pos hb]; simp only [List.length_cons]; omega
  ·rw [splitL, if_neg hb]
   cases hq : splitL c s with
   | nil => simp
   | cons x t => rw [hq] at this; simp only [List.length_cons] at this ⊢; omega
theorem lineAt_short (s : List UInt8) (i : Nat) : (lineAt s i).length ≤ s.length := by
 unfold lineAt
 rw [List.getD_eq_getElem?_getD]
 cases hq : (splitL 10 s)[i]? with
 | none => simp
 | some l => exact split_short 10 (List.mem_of_getElem? hq)
theorem lineAt_get {s : List UInt8} {i : Nat} (h : i < (splitL 10 s).length) : (splitL 10 s)[i]? = some (lineAt s i) := by
 unfold lineAt
 rw [List.getD_eq_getElem?_getD, List.getElem?_eq_getElem h]; rfl
def yearsOf (s : List UInt8) : Nat := ((toldN (lineAt s 0)).getD 0 0).toNat
def manyOf (s : List UInt8) : Nat := ((toldN (lineAt s 0)).getD 1 0).toNat
def riversOf (s : List UInt8) (j : Nat) : List River := (List.range j).map fun i => tellR (toldN (lineAt s (i + 1))) (yearsOf s)
theorem riversOf_len (s : List UInt8) (j : Nat) : (riversOf s j).length = j := by simp [riversOf]
theorem riversOf_succ (s : List UInt8) (j : Nat) : riversOf s (j + 1) = riversOf s j ++ [tellR (toldN (lineAt s (j + 1))) (yearsOf s)] := by unfold riversOf; rw [List.range_succ]; simp
def bookOf (s : List UInt8) : Book := { years := (yearsOf s : Int), rivers := riversOf s (manyOf s) }
theorem many_text {s : List UInt8} {b : Book} (h : TextOf s b) : manyOf s = b.rivers.length := by unfold manyOf; rw [(text_head h).2]; simp
theorem years_text {s : List UInt8} {b : Book} (h : TextOf s b) : (yearsOf s : Int) = b.years := by
 unfold yearsOf; rw [(text_head h).2]
 have := h.1.hd b.years (by simp)
 simp; omega
theorem book_text {s : List UInt8} {b : Book} (h : TextOf s b) : bookOf s = b := by
 have hh : riversOf s (manyOf s) = b.rivers := by
  rw [many_text h]
  refine List.ext_getElem (riversOf_len _ _) fun i hi hj => ?_
  have := (text_river h (List.getElem?_eq_getElem hj)).2
  have h2 := h.1.gr _ (List.getElem_mem hj)
  have h3 := years_text h
  simp only [riversOf, List.getElem_map, List.getElem_range]
  rw [this, show yearsOf s = (b.rivers[i]).grow.length by omega, tellR_nums]
 unfold bookOf
 rw [hh, years_text h]
/-- A list of two. -/
theorem two_of {l : List Int} (h : l.length = 2) : ∃ a b, l = [a, b] := by
 match l, h with
 | [a, b], _ => exact ⟨a, b, rfl⟩
/-- All lines are as they ought to be. -/
structure LinesOk (s : List UInt8) : Prop where
 n : (splitL 10 s).length = manyOf s + 3
 h0 : toldOk wBook 2 (lineAt s 0) = true
 h2 : ∀ i, i < manyOf s → toldOk wRiver (2 * yearsOf s + 2) (lineAt s (i + 1)) = true
theorem nums_river {ns : List Int} {k : Nat} (h : ns.length = 2 * k + 2) : (tellR ns k).nums = ns := by
 have hl : (tellR ns k).nums.length = ns.length := by
  rw [nums_length, h]
  show 2 + 2 * (tellG ns k).length = _
  rw [tellG_len]; omega
 refine List.ext_getElem hl fun i h1 h2 => ?_
 have e : ∀ (l : List Int) (q : i < l.length), l[i] = l.getD i 0 := fun l q => by rw [List.getD_eq_getElem?_getD, List.getElem?_eq_getElem q]; rfl
 rw [e _ h1, e _ h2]
 unfold River.nums tellR
 match i, h2 with
 | 0, _ => rfl
 | 1, _ => rfl
 | i + 2, h2 =>
  simp only [List.getD_cons_succ]
  have hp := pairs_get (tellG ns k) (i / 2)
  have hk : i / 2 < k := by omega
  have hg : (tellG ns k).getD (i / 2) (0, 0) = (ns.getD (2 * (i / 2) + 2) 0, ns.getD (2 * (i / 2) + 3) 0) := by
   rw [List.getD_eq_getElem?_getD]; unfold tellG; rw [List.getElem?_map, List.getElem?_range hk]; rfl
  rw [hg] at hp
  rcases (by omega : i = 2 * (i / 2) ∨ i = 2 * (i / 2) + 1) with q | q
  ·rw [q, hp.1]
  ·rw [q, hp.2]
theorem bookN_small {s : List UInt8} {N : Nat} (h0 : toldOk wBook 2 (lineAt s 0) = true) (h2 : ∀ i, i < N → toldOk wRiver (2 * yearsOf s + 2) (lineAt s (i + 1)) = true) (hN : N ≤ 300) : TextN ⟨(yearsOf s : Int), riversOf s N⟩ := by
 obtain ⟨l0, s0, _⟩ := told_line h0
 obtain ⟨a0, b0, e0⟩ := two_of l0
 rw [e0] at s0
 have ha := s0 a0 (by simp)
 refine ⟨?_, ?_, ?_⟩
 ·intro y hy
  simp only [riversOf_len, yearsOf, e0, List.mem_cons, List.mem_nil_iff, or_false] at hy
  rcases hy with rfl | rfl
  ·simp; omega
  ·omega
 ·intro x hx
  obtain ⟨i, hi, rfl⟩ := List.mem_map.1 (show x ∈ riversOf s N from hx)
  obtain ⟨l2, s2, _⟩ := told_line (h2 i (List.mem_range.1 hi))
  rw [nums_river l2]; exact s2
 ·intro x hx
  obtain ⟨i, hi, rfl⟩ := List.mem_map.1 (show x ∈ riversOf s N from hx)
  show ((tellG _ _).length : Int) = _
  rw [tellG_len]
theorem bookN_textB {s : List UInt8} {N : Nat} (h0 : toldOk wBook 2 (lineAt s 0) = true) (h2 : ∀ i, i < N → toldOk wRiver (2 * yearsOf s + 2) (lineAt s (i + 1)) = true) (hN : N ≤ 300) (hs : s.length ≤ 300) : TextB ⟨(yearsOf s : Int), riversOf s N⟩ where
 y := (bookN_small h0 h2 hN).hd _ (by simp)
 n := by
  show (riversOf s N).length ≤ 300
  rw [riversOf_len]; exact hN
 nums := fun r hr => (bookN_small h0 h2 hN).rv r hr
 grow := fun r hr => by
  obtain ⟨i, hi, rfl⟩ := List.mem_map.1 (show r ∈ riversOf s N from hr)
  have h2 := h2 i (List.mem_range.1 hi)
  have h3 := split_count 32 (lineAt s (i + 1))
  have h4 := lineAt_short s (i + 1)
  unfold toldOk at h2
  simp only [Bool.and_eq_true, decide_eq_true_eq] at h2
  show (tellG _ _).length ≤ 150
  rw [tellG_len]; omega
 short := fun l hl => by
  unfold linesT at hl
  simp only [List.mem_cons, List.mem_map] at hl
  rcases hl with rfl | ⟨x, hx, rfl⟩
  ·have h1 := (bookN_small h0 h2 hN).hd
   have := lineT_len (word := wBook) (ns := [(yearsOf s : Int), ((riversOf s N).length : Int)]) (fun y hy => by have := h1 y hy; omega)
   have h5 : wBook.length = 4 := rfl
   simp only [List.length_cons, List.length_nil] at this
   omega
  ·obtain ⟨i, hi, rfl⟩ := List.mem_map.1 (show x ∈ riversOf s N from hx)
   obtain ⟨l2, s2, g2⟩ := told_line (h2 i (List.mem_range.1 hi))
   rw [nums_river l2, ← g2]
   have := lineAt_short s (i + 1); omega
theorem lines_many {s : List UInt8} (h : LinesOk s) (hs : s.length ≤ 300) : manyOf s ≤ 300 := by
 have h1 := split_count 10 s
 have h2 := h.n
 omega
theorem book_small {s : List UInt8} (h : LinesOk s) (hs : s.length ≤ 300) : TextN (bookOf s) := bookN_small h.h0 h.h2 (lines_many h hs)
theorem book_textB {s : List UInt8} (h : LinesOk s) (hs : s.length ≤ 300) : TextB (bookOf s) := bookN_textB h.h0 h.h2 (lines_many h hs) hs
theorem text_lines {s : List UInt8} {b : Book} (h : TextOf s b) : LinesOk s := by
 have hm := many_text h
 have hy := years_text h
 refine ⟨by rw [hm]; exact text_len h, (text_head h).1, fun i hi => ?_⟩
 have hx : b.rivers[i]? = some b.rivers[i] := List.getElem?_eq_getElem (by omega)
 have := (text_river h hx).1
 have h2 := h.1.gr _ (List.mem_of_getElem? hx)
 rw [show yearsOf s = (b.rivers[i]).grow.length by omega]; exact this
end Go.Proofs.YtdmdabhdcpjkiaaGreatDoor

/- The reference's reading in plain Lean: it finds the book of a text, and of nothing else. -/
namespace Go.Proofs.YtdmdabhdcpjkiaaGreatDoor
open Go.RowKit
def zeroB : Book := ⟨0, []⟩
/-- The book that all lines but the last two tell. -/
def readB (s : List UInt8) : Book := if (splitL 10 s).length ≤ 2 then zeroB else ⟨(yearsOf s : Int), riversOf s ((splitL 10 s).length - 3)⟩
/-- What so many lines tell. -/
def upTo (s : List UInt8) : Nat → Book
 | 0 => zeroB
 | i + 1 => ⟨(yearsOf s : Int), riversOf s i⟩
/-- So many lines are as they ought to be. -/
def upOk (s : List UInt8) (i : Nat) : Prop := (0 < i → toldOk wBook 2 (lineAt s 0) = true) ∧ ∀ j, j + 1 < i → toldOk wRiver (2 * yearsOf s + 2) (lineAt s (j + 1)) = true
theorem upOk_zero (s : List UInt8) : upOk s 0 := ⟨fun h => absurd h (by omega), fun j h => absurd h (by omega)⟩
theorem upOk_one {s : List UInt8} (h : toldOk wBook 2 (lineAt s 0) = true) : upOk s 1 := ⟨fun _ => h, fun j h => absurd h (by omega)⟩
theorem upOk_succ {s : List UInt8} {i : Nat} (h : upOk s (i + 1)) (h2 : toldOk wRiver (2 * yearsOf s + 2) (lineAt s (i + 1)) = true) : upOk s (i + 2) :=
 ⟨fun _ => h.1 (by omega), fun j hj => by
  by_cases e : j = i
  ·rw [e]; exact h2
  ·exact h.2 j (by omega)⟩
theorem upTo_succ (s : List UInt8) (i : Nat) : upTo s (i + 2) = { upTo s (i + 1) with rivers := (upTo s (i + 1)).rivers ++ [tellR (toldN (lineAt s (i + 1))) (yearsOf s)] } := by
 show Book.mk _ _ = Book.mk _ _
 rw [riversOf_succ]; rfl
theorem upTo_end (s : List UInt8) : upTo s ((splitL 10 s).length - 2) = readB s := by
 unfold readB
 split
 ·rename_i h
  rw [show (splitL 10 s).length - 2 = 0 by omega]; rfl
 ·rename_i h
  rw [show (splitL 10 s).length - 2 = ((splitL 10 s).length - 3) + 1 by omega]; rfl
theorem upOk_textB {s : List UInt8} {i : Nat} (h : upOk s i) (hi : i ≤ 300) (hs : s.length ≤ 300) : TextB (upTo s i) ∧ TextN (upTo s i) := by
 cases i with
 | zero =>
  refine ⟨⟨by simp [upTo, zeroB], by simp [upTo, zeroB], fun r hr => absurd hr (by simp [upTo, zeroB]), fun r hr => absurd hr (by simp [upTo, zeroB]), fun l hl => ?_⟩, fun y hy => ?_, fun r hr => absurd hr (by simp [upTo, zeroB]), fun r hr => absurd hr (by simp [upTo, zeroB])⟩
  ·have := lineT_len (word := wBook) (ns := [0, 0]) (fun y hy => by simp at hy; omega)
   have h5 : wBook.length = 4 := rfl
   have h6 : l = lineT wBook [0, 0] := by simpa [linesT, upTo, zeroB] using hl
   simp only [List.length_cons, List.length_nil] at this
   rw [h6]; omega
  ·simp [upTo, zeroB] at hy; omega
 | succ i =>
  exact ⟨bookN_textB (h.1 (by omega)) (fun j hj => h.2 j (by omega)) (by omega) hs, bookN_small (h.1 (by omega)) (fun j hj => h.2 j (by omega)) (by omega)⟩
theorem pieces_300 {s : List UInt8} (hs : s.length ≤ 300) : (splitL 10 s).length - 2 ≤ 300 := by have := split_count 10 s; omega
theorem rread_textB {s : List UInt8} (h : upOk s ((splitL 10 s).length - 2)) (hs : s.length ≤ 300) : TextB (readB s) := by
 rw [← upTo_end]; exact (upOk_textB h (pieces_300 hs) hs).1
/-- What the reference reads is the book of a text just if it is written the same. -/
theorem rread_yes {s : List UInt8} (h : upOk s ((splitL 10 s).length - 2)) (hs : s.length ≤ 300) (he : textT (readB s) = s) : TextOf s (readB s) := by
 refine ⟨?_, he⟩
 rw [← upTo_end]; exact (upOk_textB h (pieces_300 hs) hs).2
theorem text_upOk {s : List UInt8} {b : Book} (h : TextOf s b) {i : Nat} (hi : i + 2 ≤ (splitL 10 s).length) : upOk s i := by
 have hl := text_lines h
 have hn := hl.n
 exact ⟨fun _ => hl.h0, fun j hj => hl.h2 j (by omega)⟩
theorem rread_no0 {s : List UInt8} (hL : 2 < (splitL 10 s).length) (h : toldOk wBook 2 (lineAt s 0) = false) : ¬ ∃ b, TextOf s b := fun ⟨b, hb⟩ => by
 have := (text_upOk hb (i := 1) (by omega)).1 (by omega)
 rw [h] at this; cases this
theorem rread_no1 {s : List UInt8} {i : Nat} (hL : i + 3 < (splitL 10 s).length) (h : toldOk wRiver (2 * yearsOf s + 2) (lineAt s (i + 1)) = false) : ¬ ∃ b, TextOf s b := fun ⟨b, hb⟩ => by
 have := (text_upOk hb (i := i + 2) (by omega)).2 i (by omega)
 rw [h] at this; cases this
theorem readB_text {s : List UInt8} {b : Book} (h : TextOf s b) : readB s = b := by
 have hl := text_len h
 have hm := many_text h
 unfold readB
 rw [if_neg (by omega), show (splitL 10 s).length - 3 = manyOf s by omega]
 exact book_text h
theorem rread_not {s : List UInt8} (hne : textT (readB s) ≠ s) : ¬ ∃ q, TextOf s q := fun ⟨q, hq⟩ => hne (by rw [readB_text hq]; exact hq.2)
end Go.Proofs.YtdmdabhdcpjkiaaGreatDoor

/- The reference's printing in plain Lean: decimal digits from the end, lines one below another, splitting byte by byte. -/
namespace Go.Proofs.YtdmdabhdcpjkiaaGreatDoor
open Go.RowKit

/-- The digits ahead of the last one. -/
def decHead (m : Nat) : List UInt8 := if m < 10 then [] else Lib.decDigits (m / 10)
def digitB (m : Nat) : UInt8 := UInt8.ofNat (48 + m % 10)
theorem digitB_nat (m : Nat) : (digitB m).toNat = 48 + m % 10 := by unfold digitB; rw [UInt8.toNat_ofNat']; omega
theorem dec_last (m : Nat) : Lib.decDigits m = decHead m ++ [digitB m] := by
 rw [Lib.decDigits]
 unfold decHead digitB
 by_cases h : m < 10
 ·rw [dif_pos h, if_pos h, Nat.mod_eq_of_lt h]; rfl
 ·rw [dif_neg h, if_neg h]
theorem dec_step {m : Nat} (h : ¬ m < 10) (s : List UInt8) : decHead m ++ s = decHead (m / 10) ++ (digitB (m / 10) :: s) := by
 have : decHead m = Lib.decDigits (m / 10) := by unfold decHead; rw [if_neg h]
 rw [this, dec_last (m / 10), List.append_assoc]; rfl
theorem dec_end {m : Nat} (h : m < 10) (s : List UInt8) : decHead m ++ s = s := by unfold decHead; rw [if_pos h]; rfl

/-- Lines, each with its end. -/
def downL (ls : List (List UInt8)) : List UInt8 := ls.flatMap fun l => l ++ [10]
theorem downL_succ {ls : List (List UInt8)} {i : Nat} {l : List UInt8} (h : ls[i]? = some l) : downL (ls.take (i + 1)) = downL (ls.take i) ++ (l ++ [10]) := by
 unfold downL; rw [List.take_add_one, h]; simp
theorem join_down : ∀ {ls : List (List UInt8)}, ls ≠ [] → Lib.join ls [10] ++ [10] = downL ls
 | [], h => absurd rfl h
 | [l], _ => by simp [Lib.join, downL]
 | l :: m :: t, _ => by
  have ih := join_down (ls := m :: t) (by simp)
  have e : Lib.join (l :: m :: t) [10] = l ++ (10 :: Lib.join (m :: t) [10]) := by simp [Lib.join]
  rw [e, List.append_assoc, List.cons_append, ih]
  simp [downL]
theorem text_down (r : Book) : textT r = downL (linesT r) ++ ([101, 110, 100, 32] ++ (Lib.itoa (checkT (linesT r) / 100) ++ (Lib.itoa (checkT (linesT r) / 10 % 10) ++ (Lib.itoa (checkT (linesT r) % 10) ++ [10])))) := by
 rw [← join_down (ls := linesT r) (by unfold linesT; simp)]
 unfold textT endT
 simp

/-- How splitting goes on at one byte more. -/
def SplitAt (c : UInt8) (s : List UInt8) (i : Nat) (out : List (List UInt8)) (from_ : Nat) : Prop := from_ ≤ i ∧ splitL c (s.take i) = out ++ [(s.take i).drop from_]
theorem splitAt_zero (c : UInt8) (s : List UInt8) : SplitAt c s 0 [] 0 := ⟨Nat.le_refl _, by simp [splitL]⟩
theorem splitAt_hit {c : UInt8} {s : List UInt8} {i : Nat} {out : List (List UInt8)} {f : Nat} (h : SplitAt c s i out f) (hi : s[i]? = some c) : SplitAt c s (i + 1) (out ++ [(s.take i).drop f]) (i + 1) := by
 obtain ⟨h1, h2⟩ := h
 refine ⟨Nat.le_refl _, ?_⟩
 rw [List.take_add_one, hi, Option.toList_some, splitL_snoc, if_pos rfl, h2]
 have hl := (List.getElem?_eq_some_iff.1 hi).1
 have : (s.take i ++ [c]).drop (i + 1) = [] := by rw [List.drop_eq_nil_iff]; simp; omega
 rw [this]
theorem splitAt_miss {c b : UInt8} {s : List UInt8} {i : Nat} {out : List (List UInt8)} {f : Nat} (h : SplitAt c s i out f) (hi : s[i]? = some b) (hb : b ≠ c) : SplitAt c s (i + 1) out f := by
 obtain ⟨h1, h2⟩ := h
 refine ⟨by omega, ?_⟩
 have hl := (List.getElem?_eq_some_iff.1 hi).1
 rw [List.take_add_one, hi, Option.toList_some, splitL_snoc, if_neg hb, h2, List.drop_append_of_le_length (by simp; omega)]
 simp
theorem splitAt_end {c : UInt8} {s : List UInt8} {out : List (List UInt8)} {f : Nat} (h : SplitAt c s s.length out f) : splitL c s = out ++ [s.drop f] := by
 have := h.2
 rwa [List.take_of_length_le (Nat.le_refl _)] at this
theorem splitAt_len {c : UInt8} {s : List UInt8} {i : Nat} {out : List (List UInt8)} {f : Nat} (h : SplitAt c s i out f) (_hi : i ≤ s.length) : out.length ≤ i := by
 have h1 := split_count c (s.take i)
 rw [h.2] at h1
 simp at h1
 omega
end Go.Proofs.YtdmdabhdcpjkiaaGreatDoor
