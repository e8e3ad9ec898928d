/- Texts in plain Lean: splitting, numbers, lines; what a text tells of its round. -/
import Derived.Test.YtbeophjdiddomaaGreatDoorTextb
import Derived.Lib.SplitLaws
namespace Go.Proofs.YtbeophjdiddomaaGreatDoor
open Go.RowKit

/-! ### Splitting at one byte -/
def splitL (c : UInt8) : List UInt8 → List (List UInt8)
  | [] => [[]]
  | b :: l => if b = c then [] :: splitL c l else match splitL c l with | [] => [[b]] | h :: t => (b :: h) :: t
theorem splitL_ne (c : UInt8) : ∀ s : List UInt8, splitL c s ≠ []
  | [] => by simp [splitL]
  | b :: l => by
    unfold splitL
    split
    · simp
    · split <;> simp
theorem splitL_eq (c : UInt8) : ∀ s : List UInt8, Lib.splitK [c] 0 (Lib.count s [c]) s = splitL c s
  | [] => by
    have : Lib.count [] [c] = 0 := Lib.count_miss (by simp [Lib.index])
    rw [this]; rfl
  | b :: l => by
    have ih := splitL_eq c l
    by_cases h : b = c
    · subst h
      have hix : Lib.index (b :: l) [b] = ((0 : Nat) : Int) := by rw [Lib.index]; simp [List.isPrefixOf]
      rw [Lib.count_cons_eq, Nat.add_comm, Lib.splitK, hix]
      simp [splitL, ih]
    · have hp : ([c] : List UInt8).isPrefixOf (b :: l) = false := by simp [List.isPrefixOf, Ne.symm h]
      have hix : Lib.index (b :: l) [c] = if Lib.index l [c] == -1 then -1 else Lib.index l [c] + 1 := by rw [Lib.index, hp]; simp
      rw [Lib.count_cons_ne b c l h]
      unfold splitL
      rw [if_neg h, ← ih]
      by_cases hm : Lib.index l [c] = -1
      · rw [Lib.count_miss hm]; rfl
      · have hge := Lib.index_ge l [c]
        obtain ⟨j, hj⟩ : ∃ j : Nat, Lib.index l [c] = j := ⟨(Lib.index l [c]).toNat, by omega⟩
        have hix' : Lib.index (b :: l) [c] = ((j + 1 : Nat) : Int) := by rw [hix, if_neg (fun e => hm (beq_iff_eq.1 e)), hj]; omega
        rw [Lib.count_hit (by simp) hj, Nat.add_comm, Lib.splitK, Lib.splitK, hix', hj]
        have n1 : (((j + 1 : Nat) : Int) == -1) = false := by rw [beq_eq_false_iff_ne]; omega
        have n2 : ((j : Int) == -1) = false := by rw [beq_eq_false_iff_ne]; omega
        rw [n1, n2]
        simp
theorem splitL_snoc (c b : UInt8) : ∀ s : List UInt8, splitL c (s ++ [b]) = if b = c then splitL c s ++ [[]] else (splitL c s).dropLast ++ [((splitL c s).getLastD []) ++ [b]]
  | [] => by
    by_cases h : b = c
    · subst h; simp [splitL]
    · simp [splitL, h]
  | x :: s => by
    have ih := splitL_snoc c b s
    obtain ⟨h0, t0, hs⟩ : ∃ h t, splitL c s = h :: t := by
      cases hq : splitL c s with
      | nil => exact absurd hq (splitL_ne c s)
      | cons h t => exact ⟨h, t, rfl⟩
    rw [List.cons_append]
    by_cases hx : x = c
    · subst hx
      rw [show splitL x (x :: (s ++ [b])) = [] :: splitL x (s ++ [b]) by rw [splitL, if_pos rfl], show splitL x (x :: s) = [] :: splitL x s by rw [splitL, if_pos rfl], ih]
      by_cases h : b = x
      · rw [if_pos h, if_pos h]; rfl
      · rw [if_neg h, if_neg h, hs]; simp
    · have e1 : splitL c (x :: s) = (x :: h0) :: t0 := by rw [splitL, if_neg hx, hs]
      rw [e1, splitL, if_neg hx, ih, hs]
      by_cases h : b = c
      · rw [if_pos h, if_pos h]; simp
      · rw [if_neg h, if_neg h]
        cases t0 with
        | nil => simp
        | cons y t => simp
/-- Pieces, joined again. -/
def gluedBy (c : UInt8) : List (List UInt8) → List UInt8
  | [] => []
  | [l] => l
  | l :: m :: t => l ++ c :: gluedBy c (m :: t)
theorem glued_split (c : UInt8) : ∀ s : List UInt8, gluedBy c (splitL c s) = s
  | [] => rfl
  | b :: l => by
    have ih := glued_split c l
    obtain ⟨h0, t0, hs⟩ : ∃ h t, splitL c l = h :: t := by
      cases hq : splitL c l with
      | nil => exact absurd hq (splitL_ne c l)
      | cons h t => exact ⟨h, t, rfl⟩
    rw [hs] at ih
    by_cases hb : b = c
    · subst hb
      rw [splitL, if_pos rfl, hs, gluedBy, ih]; rfl
    · rw [splitL, if_neg hb, hs]
      cases t0 with
      | nil => simp only [gluedBy] at ih ⊢; rw [ih]
      | cons y t => simp only [gluedBy] at ih ⊢; rw [List.cons_append, ih]
theorem split_whole {c : UInt8} : ∀ {l : List UInt8}, c ∉ l → splitL c l = [l]
  | [], _ => rfl
  | b :: l, h => by
    have hb : b ≠ c := fun e => h (by simp [e])
    rw [splitL, if_neg hb, split_whole (fun hm => h (by simp [hm]))]
theorem split_app {c : UInt8} {s : List UInt8} : ∀ {l : List UInt8}, c ∉ l → splitL c (l ++ c :: s) = l :: splitL c s
  | [], _ => by rw [List.nil_append, splitL, if_pos rfl]
  | b :: l, h => by
    have hb : b ≠ c := fun e => h (by simp [e])
    rw [List.cons_append, splitL, if_neg hb, split_app (fun hm => h (by simp [hm]))]
theorem split_glued {c : UInt8} : ∀ {ls : List (List UInt8)}, ls ≠ [] → (∀ l, l ∈ ls → c ∉ l) → splitL c (gluedBy c ls) = ls
  | [], h, _ => absurd rfl h
  | [l], _, h => split_whole (h l (by simp))
  | l :: m :: t, _, h => by
    rw [gluedBy, split_app (h l (by simp)), split_glued (by simp) (fun x hx => h x (by simp [hx]))]
theorem split_no (c : UInt8) : ∀ {s l : List UInt8}, l ∈ splitL c s → c ∉ l
  | [], l, h => by simp [splitL] at h; subst h; simp
  | b :: s, l, h => by
    by_cases hb : b = c
    · rw [splitL, if_pos hb, List.mem_cons] at h
      rcases h with rfl | h
      · simp
      · exact split_no c h
    · rw [splitL, if_neg hb] at h
      cases hq : splitL c s with
      | nil => exact absurd hq (splitL_ne c s)
      | cons x t =>
        rw [hq] at h
        simp only [List.mem_cons] at h
        rcases h with rfl | h
        · have := split_no c (s := s) (l := x) (by rw [hq]; simp)
          simp only [List.mem_cons, not_or]
          exact ⟨fun e => hb e.symm, this⟩
        · exact split_no c (s := s) (by rw [hq]; simp [h])

/-! ### Numbers -/
def digB (b : UInt8) : Bool := decide (48 ≤ b.toNat) && decide (b.toNat ≤ 57)
def valT (l : List UInt8) : Int := l.foldl (fun n b => 10 * n + ((b.toNat : Int) - 48)) 0
theorem valT_snoc (l : List UInt8) (b : UInt8) : valT (l ++ [b]) = 10 * valT l + ((b.toNat : Int) - 48) := by unfold valT; rw [List.foldl_append]; rfl
def numOk (l : List UInt8) : Bool := decide (l ≠ []) && decide (l.length ≤ 6) && l.all digB && decide (Lib.itoa (valT l) = l)
theorem digits_dec : ∀ u : Nat, (Lib.decDigits u).all digB = true ∧ valT (Lib.decDigits u) = u ∧ Lib.decDigits u ≠ [] := by
  intro u
  induction u using Nat.strongRecOn with
  | _ u ih =>
    have hd : ∀ k : Nat, k < 10 → digB (UInt8.ofNat (48 + k)) = true ∧ (UInt8.ofNat (48 + k)).toNat = 48 + k := fun k hk => by
      have : (UInt8.ofNat (48 + k)).toNat = 48 + k := by rw [UInt8.toNat_ofNat']; omega
      refine ⟨?_, this⟩
      unfold digB; rw [this]; simp; omega
    rw [Lib.decDigits]
    by_cases h : u < 10
    · rw [dif_pos h]
      obtain ⟨h1, h2⟩ := hd u h
      refine ⟨by rw [List.all_cons, h1]; rfl, ?_, by simp⟩
      show 10 * 0 + (((UInt8.ofNat (48 + u)).toNat : Int) - 48) = u
      rw [h2]; omega
    · rw [dif_neg h]
      obtain ⟨i1, i2, _⟩ := ih (u / 10) (by omega)
      obtain ⟨h1, h2⟩ := hd (u % 10) (by omega)
      refine ⟨by rw [List.all_append, i1, List.all_cons, h1]; rfl, ?_, by simp⟩
      rw [valT_snoc, i2, h2]; omega
theorem dec_len : ∀ (k u : Nat), 1 ≤ k → u < 10 ^ k → (Lib.decDigits u).length ≤ k
  | 0, _, h, _ => by omega
  | k + 1, u, _, hu => by
    rw [Lib.decDigits]
    by_cases h : u < 10
    · rw [dif_pos h]; simp
    · rw [dif_neg h, List.length_append, List.length_singleton]
      have h1 : u / 10 < 10 ^ k := by rw [Nat.pow_succ] at hu; omega
      cases k with
      | zero => simp at h1; omega
      | succ k => have := dec_len (k + 1) (u / 10) (by omega) h1; omega
theorem num_itoa {n : Int} (h0 : 0 ≤ n) (h1 : n ≤ 999999) : numOk (Lib.itoa n) = true ∧ valT (Lib.itoa n) = n := by
  obtain ⟨u, rfl⟩ := Int.eq_ofNat_of_zero_le h0
  rw [Lib.itoa_nonneg]
  obtain ⟨d1, d2, d3⟩ := digits_dec u
  refine ⟨?_, d2⟩
  have hl := dec_len 6 u (by omega) (by omega)
  unfold numOk
  rw [d1, d2, Lib.itoa_nonneg]
  simp [d3, hl]
theorem val_bd : ∀ {l : List UInt8}, l.all digB = true → ∀ k, 0 ≤ valT (l.take k) ∧ valT (l.take k) < 10 ^ (l.take k).length := by
  intro l h k
  induction k with
  | zero => simp [valT]
  | succ k ih =>
    cases hk : l[k]? with
    | none => rw [List.take_add_one, hk]; simpa using ih
    | some b =>
      rw [List.take_add_one, hk, Option.toList_some, valT_snoc, List.length_append, List.length_singleton, Int.pow_succ]
      rw [List.all_eq_true] at h
      have := h b (List.mem_of_getElem? hk)
      simp only [digB, Bool.and_eq_true, decide_eq_true_eq] at this
      omega
theorem pow10_le {k : Nat} (h : k ≤ 6) : (10 : Int) ^ k ≤ 1000000 := by
  rcases (show k = 0 ∨ k = 1 ∨ k = 2 ∨ k = 3 ∨ k = 4 ∨ k = 5 ∨ k = 6 by omega) with rfl | rfl | rfl | rfl | rfl | rfl | rfl <;> decide
theorem num_ok {l : List UInt8} (h : numOk l = true) : 0 ≤ valT l ∧ valT l ≤ 999999 ∧ Lib.itoa (valT l) = l ∧ l ≠ [] ∧ l.length ≤ 6 ∧ l.all digB = true := by
  unfold numOk at h
  simp only [Bool.and_eq_true, decide_eq_true_eq] at h
  obtain ⟨⟨⟨h1, h2⟩, h3⟩, h4⟩ := h
  have hb := val_bd h3 l.length
  rw [List.take_of_length_le (Nat.le_refl _)] at hb
  have h5 := pow10_le h2
  exact ⟨hb.1, by omega, h4, h1, h2, h3⟩

/-! ### Lines -/
def toldOk (word : List UInt8) (many : Nat) (s : List UInt8) : Bool := decide ((splitL 32 s).length = many + 1) && decide ((splitL 32 s).headD [] = word) && ((splitL 32 s).drop 1).all numOk
def toldN (s : List UInt8) : List Int := ((splitL 32 s).drop 1).map valT
def Small (ns : List Int) : Prop := ∀ y, y ∈ ns → 0 ≤ y ∧ y ≤ 999999
theorem glued_nums : ∀ (w : List UInt8) (ws : List (List UInt8)), (∀ x, x ∈ ws → numOk x = true) → gluedBy 32 (w :: ws) = lineT w (ws.map valT)
  | w, [], _ => by simp [gluedBy, lineT, numsT]
  | w, x :: ws, h => by
    rw [gluedBy, glued_nums x ws (fun y hy => h y (by simp [hy]))]
    have hx := (num_ok (h x (by simp))).2.2.1
    simp [lineT, numsT, hx]
theorem told_line {word : List UInt8} {many : Nat} {s : List UInt8} (h : toldOk word many s = true) : (toldN s).length = many ∧ Small (toldN s) ∧ s = lineT word (toldN s) := by
  unfold toldOk at h
  simp only [Bool.and_eq_true, decide_eq_true_eq, List.all_eq_true] at h
  obtain ⟨⟨h1, h2⟩, h3⟩ := h
  refine ⟨by unfold toldN; rw [List.length_map, List.length_drop]; omega, fun y hy => ?_, ?_⟩
  · unfold toldN at hy
    obtain ⟨x, hx, rfl⟩ := List.mem_map.1 hy
    have := num_ok (h3 x hx)
    exact ⟨this.1, this.2.1⟩
  · have hg := glued_split 32 s
    cases hq : splitL 32 s with
    | nil => exact absurd hq (splitL_ne 32 s)
    | cons w ws =>
      rw [hq] at hg h2 h3
      simp only [List.headD_cons, List.drop_succ_cons, List.drop_zero] at h2 h3
      subst h2
      rw [glued_nums w ws h3] at hg
      unfold toldN
      rw [hq]
      exact hg.symm
theorem itoa_no {n : Int} (h : 0 ≤ n) {b : UInt8} (hb : b.toNat < 48) : b ∉ Lib.itoa n := by
  obtain ⟨u, rfl⟩ := Int.eq_ofNat_of_zero_le h
  rw [Lib.itoa_nonneg]
  intro hm
  have h1 := (digits_dec u).1
  rw [List.all_eq_true] at h1
  have := h1 b hm
  simp only [digB, Bool.and_eq_true, decide_eq_true_eq] at this
  omega
theorem split_line {word : List UInt8} (hw : (32 : UInt8) ∉ word) : ∀ {ns : List Int}, Small ns → splitL 32 (lineT word ns) = word :: ns.map Lib.itoa
  | [], _ => by simp only [lineT, numsT, List.flatMap_nil, List.append_nil, List.map_nil]; exact split_whole hw
  | n :: ns, h => by
    have e : lineT word (n :: ns) = word ++ 32 :: lineT (Lib.itoa n) ns := by simp [lineT, numsT]
    rw [e, split_app hw, split_line (itoa_no (h n (by simp)).1 (by decide)) (fun y hy => h y (by simp [hy]))]
    rfl
theorem line_told {word : List UInt8} (hw : (32 : UInt8) ∉ word) {ns : List Int} (h : Small ns) : toldOk word ns.length (lineT word ns) = true ∧ toldN (lineT word ns) = ns := by
  unfold toldOk toldN
  rw [split_line hw h]
  constructor
  · simp only [List.length_cons, List.length_map, decide_true, List.headD_cons, List.drop_succ_cons, List.drop_zero, Bool.true_and, List.all_map, List.all_eq_true]
    intro y hy
    exact (num_itoa (h y hy).1 (h y hy).2).1
  · simp only [List.drop_succ_cons, List.drop_zero, List.map_map]
    conv => rhs; rw [← List.map_id ns]
    refine List.map_congr_left fun y hy => ?_
    exact (num_itoa (h y hy).1 (h y hy).2).2
theorem line_no10 {word : List UInt8} (hw : (10 : UInt8) ∉ word) {ns : List Int} (h : Small ns) : (10 : UInt8) ∉ lineT word ns := by
  unfold lineT numsT
  rw [List.mem_append, List.mem_flatMap]
  rintro (h1 | ⟨y, hy, h1⟩)
  · exact hw h1
  · rcases List.mem_cons.1 h1 with h2 | h2
    · cases h2
    · exact itoa_no (h y hy).1 (by decide) h2
/-! ### Texts -/
/-- All numbers of a round are written with six digits at most. -/
structure TextN (r : Round) : Prop where
  hd : Small [r.per, (r.houses.length : Int)]
  sc : Small [r.lo, r.hi, r.card, r.slack]
  ft : Small [r.all, r.off]
  lt : ∀ h, h ∈ r.houses → Small h.nums
theorem join_glued : ∀ ls : List (List UInt8), Lib.join ls [10] = gluedBy 10 ls
  | [] => rfl
  | [l] => by simp [Lib.join, gluedBy]
  | l :: m :: t => by
    rw [gluedBy, ← join_glued (m :: t)]
    simp [Lib.join]
def endL (c : Int) : List UInt8 := [101, 110, 100, 32] ++ Lib.itoa (c / 100) ++ Lib.itoa (c / 10 % 10) ++ Lib.itoa (c % 10)
theorem glued_more : ∀ (ls : List (List UInt8)) (e : List UInt8), ls ≠ [] → gluedBy 10 ls ++ 10 :: e = gluedBy 10 (ls ++ [e])
  | [], _, h => absurd rfl h
  | [l], e, _ => by simp [gluedBy]
  | l :: m :: t, e, _ => by
    have := glued_more (m :: t) e (by simp)
    rw [gluedBy, List.append_assoc, List.cons_append, this]
    rfl
theorem text_glued (r : Round) : textT r = gluedBy 10 (linesT r ++ [endL (checkT (linesT r)), []]) := by
  have hne : linesT r ≠ [] := by unfold linesT; simp
  have h1 := glued_more (linesT r) (endL (checkT (linesT r))) hne
  have h2 := glued_more (linesT r ++ [endL (checkT (linesT r))]) [] (by simp)
  rw [List.append_assoc] at h2
  rw [show ([endL (checkT (linesT r)), []] : List (List UInt8)) = [endL (checkT (linesT r))] ++ [[]] from rfl, ← h2, ← h1]
  unfold textT endT endL
  rw [join_glued]
  simp
theorem check_bd (ls : List (List UInt8)) : 0 ≤ checkT ls ∧ checkT ls ≤ 138 := by unfold checkT; omega
theorem endL_no10 {c : Int} (h : 0 ≤ c) : (10 : UInt8) ∉ endL c := by
  unfold endL
  simp only [List.mem_append, not_or]
  exact ⟨⟨⟨by decide, itoa_no (by omega) (by decide)⟩, itoa_no (by omega) (by decide)⟩, itoa_no (by omega) (by decide)⟩
theorem lines_no10 {r : Round} (h : TextN r) : ∀ l, l ∈ linesT r → (10 : UInt8) ∉ l := by
  intro l hl
  unfold linesT at hl
  simp only [List.cons_append, List.mem_cons, List.mem_append, List.mem_map, List.mem_nil_iff, or_false] at hl
  rcases hl with rfl | rfl | ⟨x, hx, rfl⟩ | rfl
  · exact line_no10 (by decide) h.hd
  · exact line_no10 (by decide) h.sc
  · exact line_no10 (by decide) (h.lt x hx)
  · exact line_no10 (by decide) h.ft
theorem split_text {r : Round} (h : TextN r) : splitL 10 (textT r) = linesT r ++ [endL (checkT (linesT r)), []] := by
  rw [text_glued]
  refine split_glued (by simp) (fun l hl => ?_)
  rcases List.mem_append.1 hl with hl | hl
  · exact lines_no10 h l hl
  · simp only [List.mem_cons, List.mem_nil_iff, or_false] at hl
    rcases hl with rfl | rfl
    · exact endL_no10 (check_bd _).1
    · simp
/-- A text of a round. -/
def TextOf (s : List UInt8) (r : Round) : Prop := TextN r ∧ textT r = s
def lineAt (s : List UInt8) (i : Nat) : List UInt8 := (splitL 10 s).getD i []
theorem text_len {s : List UInt8} {r : Round} (h : TextOf s r) : (splitL 10 s).length = r.houses.length + 5 := by
  rw [← h.2, split_text h.1, List.length_append, linesT_length]; rfl
theorem text_line {s : List UInt8} {r : Round} (h : TextOf s r) {i : Nat} (hi : i < r.houses.length + 3) : lineAt s i = (linesT r).getD i [] := by
  unfold lineAt
  rw [← h.2, split_text h.1, List.getD_eq_getElem?_getD, List.getD_eq_getElem?_getD, List.getElem?_append_left (by rw [linesT_length]; omega)]
theorem text_head {s : List UInt8} {r : Round} (h : TextOf s r) : toldOk wRound 2 (lineAt s 0) = true ∧ toldN (lineAt s 0) = [r.per, (r.houses.length : Int)] := by
  rw [text_line h (by omega)]
  exact line_told (by decide) h.1.hd
theorem text_scales {s : List UInt8} {r : Round} (h : TextOf s r) : toldOk wWeigh 4 (lineAt s 1) = true ∧ toldN (lineAt s 1) = [r.lo, r.hi, r.card, r.slack] := by
  rw [text_line h (by omega)]
  exact line_told (by decide) h.1.sc
theorem text_lot {s : List UInt8} {r : Round} (h : TextOf s r) {i : Nat} {x : House} (hx : r.houses[i]? = some x) : toldOk wHouse 6 (lineAt s (i + 2)) = true ∧ toldN (lineAt s (i + 2)) = x.nums := by
  have hi := (List.getElem?_eq_some_iff.1 hx).1
  have e : (linesT r).getD (i + 2) [] = lineT wHouse x.nums := by
    unfold linesT
    rw [List.getD_eq_getElem?_getD, List.cons_append, List.cons_append, List.getElem?_cons_succ, List.getElem?_cons_succ, List.getElem?_append_left (by simpa using hi), List.getElem?_map, hx]; rfl
  rw [text_line h (by omega), e]
  exact line_told (by decide) (h.1.lt x (List.mem_of_getElem? hx))
theorem text_foot {s : List UInt8} {r : Round} (h : TextOf s r) : toldOk wAll 2 (lineAt s (r.houses.length + 2)) = true ∧ toldN (lineAt s (r.houses.length + 2)) = [r.all, r.off] := by
  have e : (linesT r).getD (r.houses.length + 2) [] = lineT wAll [r.all, r.off] := by
    unfold linesT
    rw [List.getD_eq_getElem?_getD, List.cons_append, List.cons_append, List.getElem?_cons_succ, List.getElem?_cons_succ, List.getElem?_append_right (by simp)]
    simp
  rw [text_line h (by omega), e]
  exact line_told (by decide) h.1.ft
def houseOf (ns : List Int) : House := ⟨ns.getD 0 0, ns.getD 1 0, ns.getD 2 0, ns.getD 3 0, ns.getD 4 0, ns.getD 5 0⟩
theorem houseOf_nums (x : House) : houseOf x.nums = x := rfl
theorem textB_ofN {r : Round} (h : TextN r) (hn : r.houses.length ≤ 500) : TextB r where
  hd := fun y hy => by have := h.hd y hy; omega
  sc := fun y hy => by have := h.sc y hy; omega
  ft := fun y hy => by have := h.ft y hy; omega
  lt := fun x hx y hy => by have := h.lt x hx y hy; omega
  n := hn
theorem textOf_one {s : List UInt8} {r q : Round} (h : TextOf s r) (k : TextOf s q) : r = q := by
  have h0 := (text_head h).2.symm.trans (text_head k).2
  have h1 := (text_scales h).2.symm.trans (text_scales k).2
  simp only [List.cons.injEq, and_true] at h0 h1
  have hl : r.houses.length = q.houses.length := by omega
  have h2 := text_foot h
  rw [hl] at h2
  have h3 := h2.2.symm.trans (text_foot k).2
  simp only [List.cons.injEq, and_true] at h3
  have hh : r.houses = q.houses := by
    refine List.ext_getElem hl fun i hi hj => ?_
    have a := (text_lot h (List.getElem?_eq_getElem hi)).2
    have b := (text_lot k (List.getElem?_eq_getElem hj)).2
    rw [← houseOf_nums r.houses[i], ← houseOf_nums q.houses[i], ← a, ← b]
  cases r; cases q
  simp only at h0 h1 h3 hh
  obtain ⟨rfl, _⟩ := h0
  obtain ⟨rfl, rfl, rfl, rfl⟩ := h1
  obtain ⟨rfl, rfl⟩ := h3
  subst hh
  rfl
end Go.Proofs.YtbeophjdiddomaaGreatDoor
