/- Sample books, in plain Lean: what they are, their orders, pages and truths. -/
import Derived.Test.YtokananogogjaaaGreatDoorBase
namespace Go.Proofs.YtokananogogjaaaGreatDoor
/-! ### The orders of some numbers -/
def ordersFrom (hs : List Int) : Nat → List Int → List (List Int)
 | 0, now => [now]
 | f + 1, now => hs.flatMap fun n => if n ∈ now then [] else ordersFrom hs f (now ++ [n])
def ordersOf (hs : List Int) : List (List Int) := ordersFrom hs hs.length []
theorem ordersFrom_mem {hs : List Int} : ∀ {f : Nat} {now l : List Int}, l ∈ ordersFrom hs f now → (∀ n, n ∈ now → n ∈ hs) → now.Nodup → (∀ n, n ∈ l → n ∈ hs) ∧ l.Nodup ∧ l.length = now.length + f
 | 0, now, l, h, hn, hd => by simp [ordersFrom] at h; subst h; exact ⟨hn, hd, rfl⟩
 | f + 1, now, l, h, hn, hd => by
  simp only [ordersFrom, List.mem_flatMap] at h
  obtain ⟨n, hmem, h⟩ := h
  split at h
  ·simp at h
  ·rename_i hnn
   have := ordersFrom_mem h (fun m hm => by
    rcases List.mem_append.1 hm with hm | hm
    ·exact hn m hm
    ·simp at hm; subst hm; exact hmem) (by
    rw [List.nodup_append]; refine ⟨hd, by simp, ?_⟩
    intro a ha b hb; simp at hb; subst hb; exact fun e => hnn (e ▸ ha))
   obtain ⟨a, b, c⟩ := this
   exact ⟨a, b, by rw [c]; simp; omega⟩
/-- Every list of numbers of hs without repetition that goes on from now is met. -/
theorem ordersFrom_all {hs : List Int} : ∀ {f : Nat} {now t : List Int}, t.length = f → (∀ n, n ∈ t → n ∈ hs) → (now ++ t).Nodup → now ++ t ∈ ordersFrom hs f now
 | 0, now, t, h, _, _ => by
  have : t = [] := by simpa using h
  subst this; simp [ordersFrom]
 | f + 1, now, [], h, _, _ => by simp at h
 | f + 1, now, x :: t, h, hm, hd => by
  simp only [ordersFrom, List.mem_flatMap]
  have hx : x ∉ now := fun hx => by
   rw [List.nodup_append] at hd
   exact hd.2.2 x hx x (by simp) rfl
  refine ⟨x, hm x (by simp), ?_⟩
  rw [if_neg hx]
  have := ordersFrom_all (f := f) (now := now ++ [x]) (t := t) (by simpa using h) (fun n hn => hm n (by simp [hn])) (by simpa using hd)
  simpa using this
theorem flat_nodup {α β : Type} {f : α → List β} : ∀ {l : List α}, l.Nodup → (∀ x, x ∈ l → (f x).Nodup) → (∀ x y z, x ∈ l → y ∈ l → z ∈ f x → z ∈ f y → x = y) → (l.flatMap f).Nodup
 | [], _, _, _ => by simp
 | a :: l, hl, hf, hx => by
  rw [List.flatMap_cons, List.nodup_append]
  rw [List.nodup_cons] at hl
  refine ⟨hf a (by simp), flat_nodup hl.2 (fun x h => hf x (by simp [h])) (fun x y z h1 h2 => hx x y z (by simp [h1]) (by simp [h2])), ?_⟩
  intro z hz w hw e
  subst e
  obtain ⟨y, hy, hzy⟩ := List.mem_flatMap.1 hw
  have := hx a y z (by simp) (by simp [hy]) hz hzy
  subst this
  exact hl.1 hy
theorem ordersFrom_pre {hs : List Int} : ∀ {f : Nat} {now l : List Int}, l ∈ ordersFrom hs f now → ∃ t, l = now ++ t
 | 0, now, l, h => by simp [ordersFrom] at h; exact ⟨[], by simp [h]⟩
 | f + 1, now, l, h => by
  simp only [ordersFrom, List.mem_flatMap] at h
  obtain ⟨n, _, h⟩ := h
  split at h
  ·simp at h
  ·obtain ⟨t, rfl⟩ := ordersFrom_pre h
   exact ⟨n :: t, by simp⟩
theorem ordersFrom_nodup {hs : List Int} (hd : hs.Nodup) : ∀ (f : Nat) (now : List Int), (ordersFrom hs f now).Nodup
 | 0, now => by simp [ordersFrom]
 | f + 1, now => by
  refine flat_nodup hd (fun x _ => ?_) (fun x y z _ _ h1 h2 => ?_)
  ·split
   ·simp
   ·exact ordersFrom_nodup hd f _
  ·split at h1
   ·simp at h1
   ·split at h2
    ·simp at h2
    ·obtain ⟨t, rfl⟩ := ordersFrom_pre h1
     obtain ⟨u, hu⟩ := ordersFrom_pre h2
     simp at hu
     exact hu.1
/-! ### A sample book -/
structure Book where
 goods : List Int
 editions : Int
 moves : Int
 entries : List (Int × Int × Int)
def isEditionB (b : Book) (n : Int) : Bool := inB n 0 (b.editions - 1)
def isNumberB (b : Book) (n : Int) : Bool := inB n 0 ((b.goods.length : Int) - 1)
def badEntry (b : Book) (x : Int × Int × Int) : Bool := !isEditionB b x.1 || !isNumberB b x.2.1 || !isNumberB b x.2.2
def isBookB (b : Book) : Bool := inB b.goods.length 2 5 && inB b.editions 1 3 && inB b.moves 0 5 && decide ((b.entries.length : Int) ≤ 8) && !(b.goods.any fun l => !inB l 1 99) && !(b.entries.any (badEntry b))
structure BookB (b : Book) : Prop where
 g2 : 2 ≤ b.goods.length
 g5 : b.goods.length ≤ 5
 e1 : 1 ≤ b.editions
 e3 : b.editions ≤ 3
 m0 : 0 ≤ b.moves
 m5 : b.moves ≤ 5
 n8 : b.entries.length ≤ 8
 lines : ∀ l, l ∈ b.goods → 1 ≤ l ∧ l ≤ 99
 entries : ∀ x, x ∈ b.entries → (0 ≤ x.1 ∧ x.1 < b.editions) ∧ (0 ≤ x.2.1 ∧ x.2.1 < b.goods.length) ∧ (0 ≤ x.2.2 ∧ x.2.2 < b.goods.length)
theorem bookB_iff {b : Book} : isBookB b = true ↔ BookB b := by
 unfold isBookB
 simp only [Bool.and_eq_true, inB_iff, decide_eq_true_eq, List.any_eq_false, Bool.not_eq_eq_eq_not, Bool.not_true, Bool.not_eq_false, badEntry, isEditionB, isNumberB, Bool.or_eq_true, not_or]
 constructor
 ·rintro ⟨⟨⟨⟨⟨h1, h2⟩, h3⟩, h4⟩, h5⟩, h6⟩
  refine ⟨by omega, by omega, h2.1, h2.2, h3.1, h3.2, by omega, h5, fun x hx => ?_⟩
  have h := h6 x hx
  omega
 ·intro h
  refine ⟨⟨⟨⟨⟨?_, h.e1, h.e3⟩, h.m0, h.m5⟩, ?_⟩, h.lines⟩, fun x hx => ?_⟩
  ·have := h.g2; have := h.g5; omega
  ·have := h.n8; omega
  ·have := h.entries x hx
   omega
theorem bookB_of {b : Book} (h : isBookB b = true) : BookB b := bookB_iff.1 h
theorem BookB.is {b : Book} (h : BookB b) : isBookB b = true := bookB_iff.2 h
/-- How many numbers mean another of the goods. -/
def movedL : List Int → List Int → Int
 | x :: a, y :: b => (if x = y then 0 else 1) + movedL a b
 | _, _ => 0
theorem movedL_comm : ∀ a b, movedL a b = movedL b a
 | x :: a, y :: b => by simp only [movedL, movedL_comm a b, eq_comm (a := x)]
 | [], [] => rfl
 | [], _ :: _ => rfl
 | _ :: _, [] => rfl
theorem movedL_bd : ∀ a b, 0 ≤ movedL a b ∧ movedL a b ≤ a.length
 | x :: a, y :: b => by have := movedL_bd a b; simp only [movedL, List.length_cons]; split <;> omega
 | [], b => by simp [movedL]
 | _ :: _, [] => by simp [movedL]; omega
theorem movedL_take : ∀ {a b : List Int} {k : Nat} {x y : Int}, a[k]? = some x → b[k]? = some y → movedL (a.take (k + 1)) (b.take (k + 1)) = movedL (a.take k) (b.take k) + (if x = y then 0 else 1)
 | a0 :: a, b0 :: b, 0, x, y, h1, h2 => by simp at h1 h2; subst h1 h2; simp [movedL]
 | a0 :: a, b0 :: b, k + 1, x, y, h1, h2 => by
  simp only [List.take_succ_cons, movedL]
  rw [movedL_take (a := a) (b := b) (k := k) (by simpa using h1) (by simpa using h2)]; omega
 | [], b, k, x, y, h1, h2 => by simp at h1
 | a0 :: a, [], k, x, y, h1, h2 => by simp at h2
/-- Is an edition as all entries say, and do no two of its numbers mean the same? -/
def breaks (e : Int) (l : List Int) (x : Int × Int × Int) : Bool := x.1 == e && l.getD x.2.1.toNat 0 != x.2.2
def nodupB : List Int → Bool
 | [] => true
 | x :: l => !(decide (x ∈ l)) && nodupB l
theorem nodupB_iff : ∀ {l : List Int}, nodupB l = true ↔ l.Nodup
 | [] => by simp [nodupB]
 | x :: l => by simp [nodupB, nodupB_iff (l := l)]
def allowedB (b : Book) (e : Int) (l : List Int) : Bool := !(b.entries.any (breaks e l))
def suitsB (b : Book) (e : Int) (l : List Int) : Bool := nodupB l && allowedB b e l
/-- A proposed truth: is there one of the goods for each edition and number? -/
def badRow (b : Book) (x : List Int) : Bool := decide ((x.length : Int) ≠ b.goods.length) || x.any (fun n => !isNumberB b n)
def isMeansB (b : Book) (t : List (List Int)) : Bool := decide ((t.length : Int) = b.editions) && !(t.any (badRow b))
def fitB (b : Book) (t : List (List Int)) (e : Nat) : Bool := suitsB b e (t.getD e []) && (decide (e = 0) || decide (movedL (t.getD (e - 1) []) (t.getD e []) ≤ b.moves))
def fitsB (b : Book) (t : List (List Int)) : Bool := (List.range t.length).all (fitB b t)
/-! ### Pages -/
def numsOf (n : Nat) : List Int := (List.range n).map fun i : Nat => (i : Int)
def permsB (b : Book) : List (List Int) := ordersOf (numsOf b.goods.length)
def spB (b : Book) (e : Nat) : List (List Int) := (permsB b).filter fun l => suitsB b e l
def adjB (b : Book) (l x : List Int) : Bool := decide (movedL l x ≤ b.moves)
def aheadB (b : Book) : Nat → List Int → Int
 | 0, _ => 1
 | e + 1, l => (((spB b e).filter (adjB b l)).map (aheadB b e)).sum
def backB (b : Book) : Nat → Nat → List Int → Int
 | _, 0, _ => 1
 | e, d + 1, l => (((spB b (e + 1)).filter (adjB b l)).map (backB b (e + 1) d)).sum
def afterB (b : Book) (e : Nat) (l : List Int) : Int := backB b e (b.editions.toNat - 1 - e) l
def manyB (b : Book) (e : Nat) (l : List Int) : Int := aheadB b e l * afterB b e l
def pageB (b : Book) (e : Nat) : List (List Int) := (spB b e).filter fun l => !(manyB b e l == 0)
def truthsB (b : Book) : Int := ((pageB b 0).map (manyB b 0)).sum
end Go.Proofs.YtokananogogjaaaGreatDoor
