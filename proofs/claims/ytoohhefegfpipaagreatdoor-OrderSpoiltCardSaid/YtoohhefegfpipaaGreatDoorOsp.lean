/- A text of which one digit was changed is none (plain); a book's text is short. -/
import Derived.Test.YtoohhefegfpipaaGreatDoorOtp
namespace Go.Proofs.YtoohhefegfpipaaGreatDoor
theorem split_set {c x b : UInt8} (hx : x ≠ c) (hbc : b ≠ c) : ∀ {s : List UInt8} {p : Nat}, s[p]? = some b → ∃ i j : Nat, i < (splitL c s).length ∧ ((splitL c s).getD i [])[j]? = some b ∧ splitL c (s.set p x) = (splitL c s).set i (((splitL c s).getD i []).set j x)
 | [], p, h => by simp at h
 | a :: t, 0, h => by
  simp only [List.getElem?_cons_zero, Option.some.injEq] at h
  subst h
  cases hq : splitL c t with
  | nil => exact absurd hq (splitL_ne c t)
  | cons y ys =>
   refine ⟨0, 0, ?_, ?_, ?_⟩
   ·rw [splitL, if_neg hbc, hq]; simp
   ·rw [splitL, if_neg hbc, hq]; simp
   ·rw [List.set_cons_zero, splitL, if_neg hx, splitL, if_neg hbc, hq]; simp
 | a :: t, p + 1, h => by
  simp only [List.getElem?_cons_succ] at h
  obtain ⟨i, j, h1, h2, h3⟩ := split_set hx hbc h
  rw [List.set_cons_succ]
  by_cases ha : a = c
  ·subst ha
   refine ⟨i + 1, j, ?_, ?_, ?_⟩
   ·rw [splitL, if_pos rfl]; simp; exact h1
   ·rw [splitL, if_pos rfl]; simpa using h2
   ·rw [splitL, if_pos rfl, splitL, if_pos rfl, h3]; simp
  ·cases hq : splitL c t with
   | nil => exact absurd hq (splitL_ne c t)
   | cons y ys =>
    rw [hq] at h1 h2 h3
    cases i with
    | zero =>
     refine ⟨0, j + 1, ?_, ?_, ?_⟩
     ·rw [splitL, if_neg ha, hq]; simp
     ·rw [splitL, if_neg ha, hq]; simpa using h2
     ·rw [splitL, if_neg ha, h3, splitL, if_neg ha, hq]; simp
    | succ i =>
     refine ⟨i + 1, j, ?_, ?_, ?_⟩
     ·rw [splitL, if_neg ha, hq]; simpa using h1
     ·rw [splitL, if_neg ha, hq]; simpa using h2
     ·rw [splitL, if_neg ha, h3, splitL, if_neg ha, hq]; simp
theorem lineSum_set {l : List UInt8} {b x : UInt8} {j : Nat} (hb : l[j]? = some b) (i : Nat) : ∀ k : Nat, lineSum i (l.set j x) k = lineSum i l k + if j < k then ((x.toNat : Int) - b.toNat) * ((j : Int) + 1) * ((i : Int) + 1) else 0
 | 0 => by simp [lineSum]
 | k + 1 => by
  have hj := (List.getElem?_eq_some_iff.1 hb).1
  rw [lineSum, lineSum, lineSum_set hb i k]
  by_cases e : k = j
  ·subst e
   have h1 : (l.set k x).getD k 0 = x := by rw [List.getD_eq_getElem?_getD, List.getElem?_set_self hj]; rfl
   have h2 : l.getD k 0 = b := by rw [List.getD_eq_getElem?_getD, hb]; rfl
   rw [h1, h2, if_neg (by omega), if_pos (by omega), Int.sub_mul, Int.sub_mul]
   omega
  ·have h1 : (l.set j x).getD k 0 = l.getD k 0 := by rw [List.getD_eq_getElem?_getD, List.getElem?_set_ne (fun h => e h.symm), ← List.getD_eq_getElem?_getD]
   rw [h1]
   by_cases h : j < k
   ·rw [if_pos h, if_pos (by omega)]; omega
   ·rw [if_neg h, if_neg (by omega)]; omega
theorem linesSum_set {ls : List (List UInt8)} {l : List UInt8} {b x : UInt8} {i j : Nat} (hi : ls[i]? = some l) (hb : l[j]? = some b) : ∀ N : Nat, linesSum (ls.set i (l.set j x)) N = linesSum ls N + if i < N then ((x.toNat : Int) - b.toNat) * ((j : Int) + 1) * ((i : Int) + 1) else 0
 | 0 => by simp [linesSum]
 | N + 1 => by
  have hil := (List.getElem?_eq_some_iff.1 hi).1
  have hj := (List.getElem?_eq_some_iff.1 hb).1
  rw [linesSum, linesSum, linesSum_set hi hb N]
  by_cases e : N = i
  ·subst e
   have h1 : (ls.set N (l.set j x)).getD N [] = l.set j x := by rw [List.getD_eq_getElem?_getD, List.getElem?_set_self hil]; rfl
   have h2 : ls.getD N [] = l := by rw [List.getD_eq_getElem?_getD, hi]; rfl
   rw [h1, h2, if_neg (by omega), if_pos (by omega), List.length_set, lineSum_set hb, if_pos hj]
   omega
  ·have h1 : (ls.set i (l.set j x)).getD N [] = ls.getD N [] := by rw [List.getD_eq_getElem?_getD, List.getElem?_set_ne (fun h => e h.symm), ← List.getD_eq_getElem?_getD]
   rw [h1]
   by_cases h : i < N
   ·rw [if_pos h, if_pos (by omega)]; omega
   ·rw [if_neg h, if_neg (by omega)]; omega
theorem cop151 : ∀ k : Fin 151, 0 < k.val → Nat.gcd 151 k.val = 1 := by decide +kernel
theorem not151 {d : Int} {J I : Nat} (hd0 : d ≠ 0) (hd1 : -9 ≤ d) (hd2 : d ≤ 9) (hJ0 : 0 < J) (hJ : J < 151) (hI0 : 0 < I) (hI : I < 151) : ¬ (151 : Int) ∣ d * J * I := by
 intro h
 have h1 : (151 : Nat) ∣ d.natAbs * J * I := by
  have := Int.natAbs_dvd_natAbs.2 h
  rwa [Int.natAbs_mul, Int.natAbs_mul, Int.natAbs_natCast, Int.natAbs_natCast] at this
 have h2 : (151 : Nat) ∣ d.natAbs * J := Nat.Coprime.dvd_of_dvd_mul_right (cop151 ⟨I, hI⟩ hI0) h1
 have h3 : (151 : Nat) ∣ d.natAbs := Nat.Coprime.dvd_of_dvd_mul_right (cop151 ⟨J, hJ⟩ hJ0) h2
 have h4 := Nat.le_of_dvd (by omega) h3
 omega
theorem itoa_one {d : Int} (h0 : 0 ≤ d) (h1 : d ≤ 9) : (Lib.itoa d).length = 1 := by
 obtain ⟨u, rfl⟩ := Int.eq_ofNat_of_zero_le h0
 rw [Lib.itoa_nonneg, Lib.decDigits_one (by omega)]; rfl
theorem itoa_inj {d e : Int} (h0 : 0 ≤ d) (h1 : d ≤ 99) (k0 : 0 ≤ e) (k1 : e ≤ 99) (h : Lib.itoa d = Lib.itoa e) : d = e := by
 rw [← (num_itoa h0 h1).2, ← (num_itoa k0 k1).2, h]
theorem endL_inj {c e : Int} (h0 : 0 ≤ c) (h1 : c ≤ 150) (k0 : 0 ≤ e) (k1 : e ≤ 150) (h : endL c = endL e) : c = e := by
 unfold endL at h
 have l1 := itoa_one (d := c % 10) (by omega) (by omega)
 have l2 := itoa_one (d := e % 10) (by omega) (by omega)
 have l3 := itoa_one (d := c / 10 % 10) (by omega) (by omega)
 have l4 := itoa_one (d := e / 10 % 10) (by omega) (by omega)
 have l5 := itoa_one (d := c / 100) (by omega) (by omega)
 have l6 := itoa_one (d := e / 100) (by omega) (by omega)
 obtain ⟨g1, g2⟩ := List.append_inj' h (by omega)
 obtain ⟨g3, g4⟩ := List.append_inj' g1 (by omega)
 obtain ⟨_, g6⟩ := List.append_inj' g3 (by omega)
 have e1 := itoa_inj (by omega) (by omega) (by omega) (by omega) g2
 have e2 := itoa_inj (by omega) (by omega) (by omega) (by omega) g4
 have e3 := itoa_inj (by omega) (by omega) (by omega) (by omega) g6
 omega
theorem textN_of {b : Book} (hB : BookB b) : TextN b where
 hd := fun y hy => by
  have h4 := hB.e1
  have h5 := hB.e3
  have h6 := hB.m0
  have h7 := hB.m5
  simp only [List.mem_cons, List.mem_nil_iff, or_false] at hy
  omega
 gd := fun g hg => by have := hB.lines g hg; omega
 en := fun x hx y hy => by
  have h2 := hB.g5
  have h5 := hB.e3
  obtain ⟨⟨a1, a2⟩, ⟨a3, a4⟩, a5, a6⟩ := hB.entries x hx
  simp only [entN, List.mem_cons, List.mem_nil_iff, or_false] at hy
  omega
theorem lines_14 {b : Book} (hB : BookB b) : (linesT b).length ≤ 14 := by
 rw [linesT_length]
 have h2 := hB.g5
 have h3 := hB.n8
 omega
theorem spoilt {r : Book} (hB : BookB r) {p : Nat} {b x : UInt8} (hb : (textT r)[p]? = some b) (hd : digB b = true) (hx : digB x = true) (hne : x ≠ b) : ¬ ∃ q, TextOf ((textT r).set p x) q := by
 rintro ⟨q, hq⟩
 have hN := textN_of hB
 simp only [digB, Bool.and_eq_true, decide_eq_true_eq] at hd hx
 have hb10 : b ≠ 10 := fun e => by rw [e] at hd; exact absurd hd.1 (by decide)
 have hx10 : x ≠ 10 := fun e => by rw [e] at hx; exact absurd hx.1 (by decide)
 have hdn : ((x.toNat : Int) - b.toNat) ≠ 0 := fun e => hne (UInt8.toNat_inj.1 (by omega))
 obtain ⟨i, j, hi, hij, hset⟩ := split_set hx10 hb10 hb
 rw [← hq.2, split_text hq.1, split_text hN] at hset
 rw [split_text hN] at hi hij
 have hlen := congrArg List.length hset
 rw [List.length_set, List.length_append, List.length_append] at hlen
 have hlq : (linesT q).length = (linesT r).length := by simpa using hlen
 obtain ⟨n, hn⟩ : ∃ n, (linesT r).length = n := ⟨_, rfl⟩
 have hn7 : n ≤ 14 := by rw [← hn]; exact lines_14 hB
 rw [List.length_append, hn] at hi
 simp only [List.length_cons, List.length_nil] at hi
 have hget : ∀ k : Nat, (linesT q ++ [endL (checkT (linesT q)), []])[k]? = ((linesT r ++ [endL (checkT (linesT r)), []]).set i (((linesT r ++ [endL (checkT (linesT r)), []]).getD i []).set j x))[k]? := fun k => by rw [hset]
 rcases (show i < n ∨ i = n ∨ i = n + 1 by omega) with h | h | h
 ·-- a line
  obtain ⟨l, hl⟩ : ∃ l, (linesT r)[i]? = some l := ⟨_, List.getElem?_eq_getElem (by omega)⟩
  have hgd : (linesT r ++ [endL (checkT (linesT r)), []]).getD i [] = l := by
   rw [List.getD_eq_getElem?_getD, List.getElem?_append_left (by omega), hl]; rfl
  rw [hgd] at hij hget
  have he := hget n
  rw [List.getElem?_append_right (by omega), List.getElem?_set_ne (by omega), List.getElem?_append_right (by omega), hlq, hn, Nat.sub_self] at he
  simp only [List.getElem?_cons_zero, Option.some.injEq] at he
  have hc := endL_inj (check_bd _).1 (check_bd _).2 (check_bd _).1 (check_bd _).2 he
  have hls : linesT q = (linesT r).set i (l.set j x) := by
   refine List.ext_getElem? fun k => ?_
   by_cases hk : k < n
   ·have h1 := hget k
    rw [List.getElem?_append_left (by omega), List.getElem?_set] at h1
    rw [h1, List.getElem?_set]
    by_cases e : i = k
    ·rw [if_pos e, if_pos e, List.length_append]
     rw [if_pos (by omega), if_pos (by omega)]
    ·rw [if_neg e, if_neg e, List.getElem?_append_left (by omega)]
   ·rw [List.getElem?_eq_none (by omega), List.getElem?_eq_none (by rw [List.length_set]; omega)]
  unfold checkT at hc
  rw [hlq, hls, linesSum_set hl hij, hn, if_pos h] at hc
  have hl137 := lines_short hN l (List.mem_of_getElem? hl)
  have hjl := (List.getElem?_eq_some_iff.1 hij).1
  have hdv : (151 : Int) ∣ ((x.toNat : Int) - b.toNat) * ((j + 1 : Nat) : Int) * ((i + 1 : Nat) : Int) := by
   have e1 : ((j + 1 : Nat) : Int) = (j : Int) + 1 := by omega
   have e2 : ((i + 1 : Nat) : Int) = (i : Int) + 1 := by omega
   rw [e1, e2]
   omega
  exact not151 hdn (by omega) (by omega) (by omega) (by omega) (by omega) (by omega) hdv
 ·-- the last line
  subst h
  have hls : linesT q = linesT r := by
   refine List.ext_getElem? fun k => ?_
   by_cases hk : k < i
   ·have h1 := hget k
    rwa [List.getElem?_append_left (by omega), List.getElem?_set_ne (by omega), List.getElem?_append_left (by omega)] at h1
   ·rw [List.getElem?_eq_none (by omega), List.getElem?_eq_none (by omega)]
  have he := hget i
  have hE : (linesT r ++ [endL (checkT (linesT r)), []]).getD i [] = endL (checkT (linesT r)) := by
   rw [List.getD_eq_getElem?_getD, List.getElem?_append_right (by omega), hn, Nat.sub_self]; rfl
  rw [List.getElem?_append_right (by omega), List.getElem?_set_self (by rw [List.length_append, hn]; simp), hlq, hn, Nat.sub_self, hls, hE] at he
  simp only [List.getElem?_cons_zero, Option.some.injEq] at he
  rw [hE] at hij
  have h1 := congrArg (fun z : List UInt8 => z[j]?) he
  rw [hij, List.getElem?_set_self (List.getElem?_eq_some_iff.1 hij).1] at h1
  exact hne (Option.some.inj h1).symm
 ·rw [h, List.getD_eq_getElem?_getD, List.getElem?_append_right (by omega), hn] at hij
  simp at hij
theorem lines_w {b : Book} (h : TextN b) : ∀ l, l ∈ linesT b → l.length ≤ 14 := by
 intro l hl
 unfold linesT rowsT at hl
 simp only [List.mem_cons, List.mem_append, List.mem_map] at hl
 rcases hl with rfl | ⟨x, hx, rfl⟩ | ⟨x, hx, rfl⟩
 ·have := lineT_small (word := wBook) h.hd; simp [wBook] at this ⊢; omega
 ·have := lineT_small (word := wGood) (small_one (h.gd x hx)); simp [wGood] at this ⊢; omega
 ·have := lineT_small (word := wEntry) (h.en x hx); simp [wEntry, entN] at this ⊢; omega
theorem text_300 {b : Book} (hB : BookB b) : (textT b).length ≤ 300 := by
 have hN := textN_of hB
 have h1 := down_len (lines_w hN)
 have h2 := lines_14 hB
 have hc := check_bd (linesT b)
 have l1 := itoa_one (d := checkT (linesT b) % 10) (by omega) (by omega)
 have l3 := itoa_one (d := checkT (linesT b) / 10 % 10) (by omega) (by omega)
 have l5 := itoa_one (d := checkT (linesT b) / 100) (by omega) (by omega)
 unfold textT endL
 simp only [List.length_append, List.length_cons, List.length_nil, l1, l3, l5]
 omega
theorem isText_book {b : Book} (hB : BookB b) : isTextB (textT b) = true ∧ bookOf (textT b) = b := isText_of ⟨textN_of hB, rfl⟩
theorem not_text_spoilt {b : Book} (hB : BookB b) {p : Nat} {c x : UInt8} (hb : (textT b)[p]? = some c) (hd : digB c = true) (hx : digB x = true) (hne : x ≠ c) : isTextB ((textT b).set p x) = false := by
 cases h : isTextB ((textT b).set p x) with
 | false => rfl
 | true => exact absurd ⟨_, isText_iff.1 h⟩ (spoilt hB hb hd hx hne)
end Go.Proofs.YtoohhefegfpipaaGreatDoor
