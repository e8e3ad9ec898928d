/- A text of which one digit was changed is none (plain). -/
import Derived.Test.YtbeophjdiddomaaGreatDoorTextp
namespace Go.Proofs.YtbeophjdiddomaaGreatDoor
open Go.RowKit

theorem split_set {c x b : UInt8} (hx : x ≠ c) (hbc : b ≠ c) : ∀ {s : List UInt8} {p : Nat}, s[p]? = some b → ∃ i j : Nat, i < (splitL c s).length ∧ ((splitL c s).getD i [])[j]? = some b ∧ splitL c (s.set p x) = (splitL c s).set i (((splitL c s).getD i []).set j x)
  | [], p, h => by simp at h
  | a :: t, 0, h => by
    simp only [List.getElem?_cons_zero, Option.some.injEq] at h
    subst h
    cases hq : splitL c t with
    | nil => exact absurd hq (splitL_ne c t)
    | cons y ys =>
      refine ⟨0, 0, ?_, ?_, ?_⟩
      · rw [splitL, if_neg hbc, hq]; simp
      · rw [splitL, if_neg hbc, hq]; simp
      · rw [List.set_cons_zero, splitL, if_neg hx, splitL, if_neg hbc, hq]; simp
  | a :: t, p + 1, h => by
    simp only [List.getElem?_cons_succ] at h
    obtain ⟨i, j, h1, h2, h3⟩ := split_set hx hbc h
    rw [List.set_cons_succ]
    by_cases ha : a = c
    · subst ha
      refine ⟨i + 1, j, ?_, ?_, ?_⟩
      · rw [splitL, if_pos rfl]; simp; exact h1
      · rw [splitL, if_pos rfl]; simpa using h2
      · rw [splitL, if_pos rfl, splitL, if_pos rfl, h3]; simp
    · cases hq : splitL c t with
      | nil => exact absurd hq (splitL_ne c t)
      | cons y ys =>
        rw [hq] at h1 h2 h3
        cases i with
        | zero =>
          refine ⟨0, j + 1, ?_, ?_, ?_⟩
          · rw [splitL, if_neg ha, hq]; simp
          · rw [splitL, if_neg ha, hq]; simpa using h2
          · rw [splitL, if_neg ha, h3, splitL, if_neg ha, hq]; simp
        | succ i =>
          refine ⟨i + 1, j, ?_, ?_, ?_⟩
          · rw [splitL, if_neg ha, hq]; simpa using h1
          · rw [splitL, if_neg ha, hq]; simpa using h2
          · rw [splitL, if_neg ha, h3, splitL, if_neg ha, hq]; simp
theorem lineSum_set {l : List UInt8} {b x : UInt8} {j : Nat} (hb : l[j]? = some b) (i : Nat) : ∀ k : Nat, lineSum i (l.set j x) k = lineSum i l k + if j < k then ((x.toNat : Int) - b.toNat) * ((j : Int) + 1) * ((i : Int) + 1) else 0
  | 0 => by simp [lineSum]
  | k + 1 => by
    have hj := (List.getElem?_eq_some_iff.1 hb).1
    rw [lineSum, lineSum, lineSum_set hb i k]
    by_cases e : k = j
    · subst e
      have h1 : (l.set k x).getD k 0 = x := by rw [List.getD_eq_getElem?_getD, List.getElem?_set_self hj]; rfl
      have h2 : l.getD k 0 = b := by rw [List.getD_eq_getElem?_getD, hb]; rfl
      rw [h1, h2, if_neg (by omega), if_pos (by omega), Int.sub_mul, Int.sub_mul]
      omega
    · have h1 : (l.set j x).getD k 0 = l.getD k 0 := by rw [List.getD_eq_getElem?_getD, List.getElem?_set_ne (fun h => e h.symm), ← List.getD_eq_getElem?_getD]
      rw [h1]
      by_cases h : j < k
      · rw [if_pos h, if_pos (by omega)]; omega
      · rw [if_neg h, if_neg (by omega)]; omega
theorem linesSum_set {ls : List (List UInt8)} {l : List UInt8} {b x : UInt8} {i j : Nat} (hi : ls[i]? = some l) (hb : l[j]? = some b) : ∀ N : Nat, linesSum (ls.set i (l.set j x)) N = linesSum ls N + if i < N then ((x.toNat : Int) - b.toNat) * ((j : Int) + 1) * ((i : Int) + 1) else 0
  | 0 => by simp [linesSum]
  | N + 1 => by
    have hil := (List.getElem?_eq_some_iff.1 hi).1
    have hj := (List.getElem?_eq_some_iff.1 hb).1
    rw [linesSum, linesSum, linesSum_set hi hb N]
    by_cases e : N = i
    · subst e
      have h1 : (ls.set N (l.set j x)).getD N [] = l.set j x := by rw [List.getD_eq_getElem?_getD, List.getElem?_set_self hil]; rfl
      have h2 : ls.getD N [] = l := by rw [List.getD_eq_getElem?_getD, hi]; rfl
      rw [h1, h2, if_neg (by omega), if_pos (by omega), List.length_set, lineSum_set hb, if_pos hj]
      omega
    · have h1 : (ls.set i (l.set j x)).getD N [] = ls.getD N [] := by rw [List.getD_eq_getElem?_getD, List.getElem?_set_ne (fun h => e h.symm), ← List.getD_eq_getElem?_getD]
      rw [h1]
      by_cases h : i < N
      · rw [if_pos h, if_pos (by omega)]; omega
      · rw [if_neg h, if_neg (by omega)]; omega
theorem cop139 : ∀ k : Fin 139, 0 < k.val → Nat.gcd 139 k.val = 1 := by decide +kernel
theorem not139 {d : Int} {J I : Nat} (hd0 : d ≠ 0) (hd1 : -9 ≤ d) (hd2 : d ≤ 9) (hJ0 : 0 < J) (hJ : J < 139) (hI0 : 0 < I) (hI : I < 139) : ¬ (139 : Int) ∣ d * J * I := by
  intro h
  have h1 : (139 : Nat) ∣ d.natAbs * J * I := by
    have := Int.natAbs_dvd_natAbs.2 h
    rwa [Int.natAbs_mul, Int.natAbs_mul, Int.natAbs_natCast, Int.natAbs_natCast] at this
  have h2 : (139 : Nat) ∣ d.natAbs * J := Nat.Coprime.dvd_of_dvd_mul_right (cop139 ⟨I, hI⟩ hI0) h1
  have h3 : (139 : Nat) ∣ d.natAbs := Nat.Coprime.dvd_of_dvd_mul_right (cop139 ⟨J, hJ⟩ hJ0) h2
  have h4 := Nat.le_of_dvd (by omega) h3
  omega
theorem itoa_one {d : Int} (h0 : 0 ≤ d) (h1 : d ≤ 9) : (Lib.itoa d).length = 1 := by
  obtain ⟨u, rfl⟩ := Int.eq_ofNat_of_zero_le h0
  rw [Lib.itoa_nonneg, Lib.decDigits_one (by omega)]; rfl
theorem itoa_inj {d e : Int} (h0 : 0 ≤ d) (h1 : d ≤ 999999) (k0 : 0 ≤ e) (k1 : e ≤ 999999) (h : Lib.itoa d = Lib.itoa e) : d = e := by
  rw [← (num_itoa h0 h1).2, ← (num_itoa k0 k1).2, h]
theorem endL_inj {c e : Int} (h0 : 0 ≤ c) (h1 : c ≤ 138) (k0 : 0 ≤ e) (k1 : e ≤ 138) (h : endL c = endL e) : c = e := by
  unfold endL at h
  have l1 := itoa_one (d := c % 10) (by omega) (by omega)
  have l2 := itoa_one (d := e % 10) (by omega) (by omega)
  have l3 := itoa_one (d := c / 10 % 10) (by omega) (by omega)
  have l4 := itoa_one (d := e / 10 % 10) (by omega) (by omega)
  have l5 := itoa_one (d := c / 100) (by omega) (by omega)
  have l6 := itoa_one (d := e / 100) (by omega) (by omega)
  obtain ⟨g1, g2⟩ := List.append_inj' h (by omega)
  obtain ⟨g3, g4⟩ := List.append_inj' g1 (by omega)
  obtain ⟨_, g6⟩ := List.append_inj' g3 (by omega)
  have e1 := itoa_inj (by omega) (by omega) (by omega) (by omega) g2
  have e2 := itoa_inj (by omega) (by omega) (by omega) (by omega) g4
  have e3 := itoa_inj (by omega) (by omega) (by omega) (by omega) g6
  omega
theorem lines_137 {r : Round} (hB : TextB r) : ∀ l, l ∈ linesT r → l.length ≤ 137 := by
  intro l hl
  unfold linesT at hl
  simp only [List.cons_append, List.mem_cons, List.mem_append, List.mem_map, List.mem_nil_iff, or_false] at hl
  rcases hl with rfl | rfl | ⟨h, hh, rfl⟩ | rfl
  · have := lineT_len (word := wRound) hB.hd; have h5 : wRound.length = 5 := rfl; simp only [List.length_cons, List.length_nil] at this; omega
  · have := lineT_len (word := wWeigh) hB.sc; have h5 : wWeigh.length = 5 := rfl; simp only [List.length_cons, List.length_nil] at this; omega
  · have := lineT_len (word := wHouse) (hB.lt h hh); have h5 : wHouse.length = 5 := rfl; have h6 : h.nums.length = 6 := rfl; omega
  · have := lineT_len (word := wAll) hB.ft; have h5 : wAll.length = 3 := rfl; simp only [List.length_cons, List.length_nil] at this; omega
theorem textN_of {r : Round} (hB : RoundB r) : TextN r where
  hd := by intro y hy; have := hB.p1; have := hB.p2; have := hB.h2; simp at hy; omega
  sc := by intro y hy; have := hB.l1; have := hB.l2; have := hB.l3; have := hB.c1; have := hB.c2; have := hB.s1; have := hB.s2; simp at hy; omega
  ft := by intro y hy; have := hB.a1; have := hB.a2; have := hB.o1; have := hB.o2; simp at hy; omega
  lt := by
    intro h hh y hy
    obtain ⟨⟨a1, a2⟩, ⟨b1, b2⟩, ⟨c1, c2⟩, ⟨d1, d2⟩, ⟨e1, e2⟩, ⟨f1, f2⟩⟩ := badHouse_iff.1 (hB.hs h hh)
    unfold House.nums at hy; simp at hy; omega
theorem spoilt {r : Round} (hB : RoundB r) {p : Nat} {b x : UInt8} (hb : (textT r)[p]? = some b) (hd : digB b = true) (hx : digB x = true) (hne : x ≠ b) : ¬ ∃ q, TextOf ((textT r).set p x) q := by
  rintro ⟨q, hq⟩
  have hN := textN_of hB
  have hTB := textB_of hB
  simp only [digB, Bool.and_eq_true, decide_eq_true_eq] at hd hx
  have hb10 : b ≠ 10 := fun e => by rw [e] at hd; exact absurd hd.1 (by decide)
  have hx10 : x ≠ 10 := fun e => by rw [e] at hx; exact absurd hx.1 (by decide)
  have hdn : ((x.toNat : Int) - b.toNat) ≠ 0 := fun e => hne (UInt8.toNat_inj.1 (by omega))
  obtain ⟨i, j, hi, hij, hset⟩ := split_set hx10 hb10 hb
  rw [← hq.2, split_text hq.1, split_text hN] at hset
  rw [split_text hN] at hi hij
  have hlen := congrArg List.length hset
  rw [List.length_set, List.length_append, List.length_append] at hlen
  have hlq : (linesT q).length = (linesT r).length := by simpa using hlen
  obtain ⟨n, hn⟩ : ∃ n, (linesT r).length = n := ⟨_, rfl⟩
  have hn7 : n ≤ 7 := by rw [← hn, linesT_length]; have := hB.h2; omega
  rw [List.length_append, hn] at hi
  simp only [List.length_cons, List.length_nil] at hi
  have hget : ∀ k : Nat, (linesT q ++ [endL (checkT (linesT q)), []])[k]? = ((linesT r ++ [endL (checkT (linesT r)), []]).set i (((linesT r ++ [endL (checkT (linesT r)), []]).getD i []).set j x))[k]? := fun k => by rw [hset]
  rcases (show i < n ∨ i = n ∨ i = n + 1 by omega) with h | h | h
  · -- a line
    obtain ⟨l, hl⟩ : ∃ l, (linesT r)[i]? = some l := ⟨_, List.getElem?_eq_getElem (by omega)⟩
    have hgd : (linesT r ++ [endL (checkT (linesT r)), []]).getD i [] = l := by
      rw [List.getD_eq_getElem?_getD, List.getElem?_append_left (by omega), hl]; rfl
    rw [hgd] at hij hget
    have he := hget n
    rw [List.getElem?_append_right (by omega), List.getElem?_set_ne (by omega), List.getElem?_append_right (by omega), hlq, hn, Nat.sub_self] at he
    simp only [List.getElem?_cons_zero, Option.some.injEq] at he
    have hc := endL_inj (check_bd _).1 (check_bd _).2 (check_bd _).1 (check_bd _).2 he
    have hls : linesT q = (linesT r).set i (l.set j x) := by
      refine List.ext_getElem? fun k => ?_
      by_cases hk : k < n
      · have h1 := hget k
        rw [List.getElem?_append_left (by omega), List.getElem?_set] at h1
        rw [h1, List.getElem?_set]
        by_cases e : i = k
        · rw [if_pos e, if_pos e, List.length_append]
          rw [if_pos (by omega), if_pos (by omega)]
        · rw [if_neg e, if_neg e, List.getElem?_append_left (by omega)]
      · rw [List.getElem?_eq_none (by omega), List.getElem?_eq_none (by rw [List.length_set]; omega)]
    unfold checkT at hc
    rw [hlq, hls, linesSum_set hl hij, hn, if_pos h] at hc
    have hl137 := lines_137 hTB l (List.mem_of_getElem? hl)
    have hjl := (List.getElem?_eq_some_iff.1 hij).1
    have hdv : (139 : Int) ∣ ((x.toNat : Int) - b.toNat) * ((j + 1 : Nat) : Int) * ((i + 1 : Nat) : Int) := by
      have e1 : ((j + 1 : Nat) : Int) = (j : Int) + 1 := by omega
      have e2 : ((i + 1 : Nat) : Int) = (i : Int) + 1 := by omega
      rw [e1, e2]
      omega
    exact not139 hdn (by omega) (by omega) (by omega) (by omega) (by omega) (by omega) hdv
  · -- the last line
    subst h
    have hls : linesT q = linesT r := by
      refine List.ext_getElem? fun k => ?_
      by_cases hk : k < i
      · have h1 := hget k
        rwa [List.getElem?_append_left (by omega), List.getElem?_set_ne (by omega), List.getElem?_append_left (by omega)] at h1
      · rw [List.getElem?_eq_none (by omega), List.getElem?_eq_none (by omega)]
    have he := hget i
    have hE : (linesT r ++ [endL (checkT (linesT r)), []]).getD i [] = endL (checkT (linesT r)) := by
      rw [List.getD_eq_getElem?_getD, List.getElem?_append_right (by omega), hn, Nat.sub_self]; rfl
    rw [List.getElem?_append_right (by omega), List.getElem?_set_self (by rw [List.length_append, hn]; simp), hlq, hn, Nat.sub_self, hls, hE] at he
    simp only [List.getElem?_cons_zero, Option.some.injEq] at he
    rw [hE] at hij
    have h1 := congrArg (fun z : List UInt8 => z[j]?) he
    rw [hij, List.getElem?_set_self (List.getElem?_eq_some_iff.1 hij).1] at h1
    exact hne (Option.some.inj h1).symm
  · rw [h, List.getD_eq_getElem?_getD, List.getElem?_append_right (by omega), hn] at hij
    simp at hij
/-! ### A round's text is short -/
theorem itoa_7 {n : Int} (h0 : 0 ≤ n) (h1 : n ≤ 2000000) : (Lib.itoa n).length ≤ 7 := by
  obtain ⟨u, rfl⟩ := Int.eq_ofNat_of_zero_le h0
  rw [Lib.itoa_nonneg]
  exact dec_len 7 u (by omega) (by omega)
theorem nums_8 {ns : List Int} (h : ∀ y, y ∈ ns → 0 ≤ y ∧ y ≤ 2000000) : (numsT ns).length ≤ 8 * ns.length := by
  induction ns with
  | nil => simp [numsT]
  | cons x ns ih =>
    have h1 := h x (by simp)
    have h2 := itoa_7 h1.1 h1.2
    have h3 := ih (fun y hy => h y (by simp [hy]))
    have h4 : numsT (x :: ns) = (32 :: Lib.itoa x) ++ numsT ns := by simp [numsT]
    rw [h4, List.length_append, List.length_cons, List.length_cons]; omega
theorem lines_53 {r : Round} (hB : TextB r) : ∀ l, l ∈ linesT r → l.length ≤ 53 := by
  intro l hl
  unfold linesT at hl
  simp only [List.cons_append, List.mem_cons, List.mem_append, List.mem_map, List.mem_nil_iff, or_false] at hl
  have hw : ∀ (w : List UInt8) (ns : List Int), (lineT w ns).length = w.length + (numsT ns).length := fun w ns => by unfold lineT; rw [List.length_append]
  rcases hl with rfl | rfl | ⟨h, hh, rfl⟩ | rfl
  · have := nums_8 hB.hd; rw [hw]; have h5 : wRound.length = 5 := rfl; simp only [List.length_cons, List.length_nil] at this; omega
  · have := nums_8 hB.sc; rw [hw]; have h5 : wWeigh.length = 5 := rfl; simp only [List.length_cons, List.length_nil] at this; omega
  · have := nums_8 (hB.lt h hh); rw [hw]; have h5 : wHouse.length = 5 := rfl; have h6 : h.nums.length = 6 := rfl; omega
  · have := nums_8 hB.ft; rw [hw]; have h5 : wAll.length = 3 := rfl; simp only [List.length_cons, List.length_nil] at this; omega
theorem lens_53 {L : List (List UInt8)} (h : ∀ l, l ∈ L → l.length ≤ 53) : Lib.lens L ≤ 53 * L.length := by
  induction L with
  | nil => simp [Lib.lens]
  | cons x L ih =>
    have h1 := h x (by simp)
    have h2 := ih (fun l hl => h l (by simp [hl]))
    have : Lib.lens (x :: L) = x.length + Lib.lens L := by simp [Lib.lens]
    rw [this, List.length_cons]; omega
theorem text_400 {r : Round} (hB : RoundB r) : (textT r).length ≤ 400 := by
  have hTB := textB_of hB
  have h53 := lines_53 hTB
  have hn : (linesT r).length ≤ 7 := by rw [linesT_length]; have := hB.h2; omega
  have hj : (Lib.join (linesT r) [10]).length ≤ 377 := by
    have h2 := lens_53 h53
    generalize linesT r = L at *
    cases L with
    | nil => simp [Lib.join]
    | cons x L =>
      rw [Lib.join_length]
      simp only [List.length_cons, List.length_nil] at h2 hn ⊢
      omega
  have hc := check_bd (linesT r)
  have l1 := itoa_one (d := checkT (linesT r) % 10) (by omega) (by omega)
  have l3 := itoa_one (d := checkT (linesT r) / 10 % 10) (by omega) (by omega)
  have l5 := itoa_one (d := checkT (linesT r) / 100) (by omega) (by omega)
  unfold textT endT
  simp only [List.length_append, List.length_cons, List.length_nil, l1, l3, l5]
  omega
end Go.Proofs.YtbeophjdiddomaaGreatDoor
