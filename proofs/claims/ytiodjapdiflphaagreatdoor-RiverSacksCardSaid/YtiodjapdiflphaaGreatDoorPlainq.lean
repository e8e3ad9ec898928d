/- A shell by itself: of which origins it can be, ring by ring; a lesser error never has an origin more. -/
import Derived.Test.YtiodjapdiflphaaGreatDoorWord
import Derived.Test.YtiodjapdiflphaaGreatDoorOpq
import Derived.Test.YtiodjapdiflphaaGreatDoorTrutha
import Derived.Test.YtiodjapdiflphaaGreatDoorWeaw
import Derived.Test.YtiodjapdiflphaaGreatDoorTests
import Derived.Test.YtiodjapdiflphaaGreatDoorOrgs
namespace Go.Proofs.YtiodjapdiflphaaGreatDoor
theorem getD_set_ne {α : Type} {l : List α} {i j : Nat} {x d : α} (h : i ≠ j) : (l.set i x).getD j d = l.getD j d := by
 rw [List.getD_eq_getElem?_getD, List.getD_eq_getElem?_getD, List.getElem?_set_ne h]
/-! ### A lesser error -/
end Go.Proofs.YtiodjapdiflphaaGreatDoor
namespace Go.Proofs.YtiodjapdiflphaaGreatDoor
open Go.RowKit
end Go.Proofs.YtiodjapdiflphaaGreatDoor

/- Truths in memory. -/
namespace Go.Proofs.YtiodjapdiflphaaGreatDoor
open Go.RowKit
structure Truth where
 wea : List (List Int)
 org : List Org
end Go.Proofs.YtiodjapdiflphaaGreatDoor

/- What Fits answers: definitions. -/
namespace Go.Proofs.YtiodjapdiflphaaGreatDoor
def w2 (W : List (List Int)) (r y : Nat) : Int := (W.getD r []).getD y 0
end Go.Proofs.YtiodjapdiflphaaGreatDoor

/- What is true of a sack, in plain Lean: truths of weather and origins, and what is known by them; one shell more, one test more. -/
namespace Go.Proofs.YtiodjapdiflphaaGreatDoor
/-! ### What a truth is, plainly -/
def at2 (p : Rows2) (r y : Nat) : Int × Int := (p.getD r []).getD y (0, 0)
def InRow (row : List (Int × Int)) (V : Nat → Int) : Prop := ∀ y, y < row.length → (row.getD y (0, 0)).1 ≤ V y ∧ V y ≤ (row.getD y (0, 0)).2
def Agree (off : Int) (ns : List Int) (p : Nat) (V : Nat → Int) : Prop := ∀ i, i < ns.length → -off ≤ ns.getD i 0 - V (p + i) ∧ ns.getD i 0 - V (p + i) ≤ off
theorem getD_set_eq {α : Type} {l : List α} {i : Nat} {x d : α} (h : i < l.length) : (l.set i x).getD i d = x := by
 rw [List.getD_eq_getElem?_getD, List.getElem?_set_self h]; rfl
theorem narrow_iff (off : Int) (V : Nat → Int) : ∀ (ns : List Int) (p : Nat) (row : List (Int × Int)), p + ns.length ≤ row.length →
  ((∃ z, narrowL off ns p row = some z ∧ InRow z V) ↔ InRow row V ∧ Agree off ns p V)
 | [], p, row, _ => by
  constructor
  ·rintro ⟨z, h1, h2⟩; cases h1; exact ⟨h2, fun i hi => absurd hi (Nat.not_lt_zero _)⟩
  ·rintro ⟨h, _⟩; exact ⟨row, rfl, h⟩
 | n :: ns, p, row, hl => by
  have hp : p < row.length := by simp only [List.length_cons] at hl; omega
  have hag : Agree off (n :: ns) p V ↔ (-off ≤ n - V p ∧ n - V p ≤ off) ∧ Agree off ns (p + 1) V := by
   constructor
   ·intro h
    refine ⟨by have := h 0 (by simp); simpa using this, fun i hi => ?_⟩
    have := h (i + 1) (by simp; omega)
    rw [show p + (i + 1) = p + 1 + i by omega] at this
    simpa using this
   ·rintro ⟨h1, h2⟩ i hi
    cases i with
    | zero => simpa using h1
    | succ i =>
     have := h2 i (by simp only [List.length_cons] at hi; omega)
     rw [show p + (i + 1) = p + 1 + i by omega]
     simpa using this
  have hin : InRow (row.set p (meet (row.getD p (0, 0)) n off)) V ↔ InRow row V ∧ -off ≤ n - V p ∧ n - V p ≤ off := by
   constructor
   ·intro h
    have h0 := h p (by simpa using hp)
    rw [getD_set_eq hp] at h0
    unfold meet at h0
    simp only at h0
    refine ⟨fun y hy => ?_, by omega, by omega⟩
    by_cases e : p = y
    ·subst e; omega
    ·have := h y (by simpa using hy); rwa [getD_set_ne e] at this
   ·rintro ⟨h, h1, h2⟩ y hy
    rw [List.length_set] at hy
    by_cases e : p = y
    ·subst e
     rw [getD_set_eq hp]
     have := h p hp
     unfold meet; simp only; omega
    ·rw [getD_set_ne e]; exact h y hy
  unfold narrowL
  by_cases hc : (meet (row.getD p (0, 0)) n off).2 < (meet (row.getD p (0, 0)) n off).1
  ·rw [if_pos hc]
   constructor
   ·rintro ⟨z, h, _⟩; cases h
   ·rintro ⟨h1, h2⟩
    have h3 := (hag.1 h2).1
    have h4 := h1 p hp
    unfold meet at hc; simp only at hc; omega
  ·rw [if_neg hc, narrow_iff off V ns (p + 1) _ (by simp only [List.length_cons] at hl; rw [List.length_set]; omega), hin, hag]
   constructor
   ·rintro ⟨⟨h1, h2⟩, h3⟩; exact ⟨h1, h2, h3⟩
   ·rintro ⟨h1, h2, h3⟩; exact ⟨⟨h1, h2⟩, h3⟩
/-- The weather lies within the spans. -/
def Win (b : Book) (p : Rows2) (W : List (List Int)) : Prop := ∀ r y : Nat, r < b.rivers.length → (y : Int) < b.years → (at2 p r y).1 ≤ w2 W r y ∧ w2 W r y ≤ (at2 p r y).2
theorem win_row {b : Book} {p : Rows2} {W : List (List Int)} (hs : Shape b p) : Win b p W ↔ ∀ r, r < b.rivers.length → InRow (p.getD r []) (w2 W r) := by
 constructor
 ·intro h r hr y hy
  have hr' : r < p.length := by rw [hs.1]; exact hr
  have : p.getD r [] = p[r] := by rw [List.getD_eq_getElem?_getD, List.getElem?_eq_getElem hr']; rfl
  have hl := hs.2 _ (List.getElem_mem hr')
  rw [this] at hy
  exact h r y hr (by omega)
 ·intro h r y hr hy
  have hr' : r < p.length := by rw [hs.1]; exact hr
  have : p.getD r [] = p[r] := by rw [List.getD_eq_getElem?_getD, List.getElem?_eq_getElem hr']; rfl
  have hl := hs.2 _ (List.getElem_mem hr')
  exact h r hr y (by rw [this]; omega)
theorem shape_state {b : Book} {x : State} (h : StateB b x) : Shape b x.wea := ⟨h.len, h.row⟩
/-- What a shell and its origin ask of the weather. -/
def Asks (b : Book) (s : Shell) (o : Org) (W : List (List Int)) : Prop := Agree ((riverOf b o.1).vary + s.off) s.rings (firstY o s) (w2 W o.1.toNat)
theorem with_iff {b : Book} (hB : BookB b) {x : State} (hx : StateB b x) {s : Shell} (n1 : 1 ≤ s.rings.length) {o : Org} (ho : o ∈ originsOf b s.rings.length) (W : List (List Int)) :
  (∃ z, withB b x s o = some z ∧ Win b z.wea W) ↔ Win b x.wea W ∧ Asks b s o W := by
 obtain ⟨r, y, rfl, hr, hy, hn⟩ := originsOf_mem hB n1 ho
 have hr' : r < x.wea.length := by rw [hx.len]; exact hr
 have hrow : x.wea.getD r [] = x.wea[r] := by rw [List.getD_eq_getElem?_getD, List.getElem?_eq_getElem hr']; rfl
 have hlen : (x.wea.getD r []).length = b.years := by rw [hrow]; exact hx.row _ (List.getElem_mem hr')
 have hfy : firstY ((r : Int), (y : Int)) s = y + 1 - s.rings.length := by unfold firstY; simp
 have key := narrow_iff ((riverOf b (r : Int)).vary + s.off) (w2 W r) s.rings (y + 1 - s.rings.length) (x.wea.getD r []) (by omega)
 unfold Asks withB
 rw [hfy]
 simp only [Int.toNat_natCast]
 rw [win_row (shape_state hx)]
 constructor
 ·rintro ⟨z, hz, hw⟩
  rw [Option.map_eq_some_iff] at hz
  obtain ⟨row, hrw, rfl⟩ := hz
  have hlr := narrowL_length hrw
  have hsz : Shape b (x.wea.set r row) := ⟨by rw [List.length_set]; exact hx.len, fun l hl => by
   rcases List.mem_or_eq_of_mem_set hl with hm | rfl
   ·exact hx.row l hm
   ·rw [hlr]; exact hlen⟩
  rw [win_row hsz] at hw
  have h1 := hw r hr
  rw [getD_set_eq hr'] at h1
  obtain ⟨h2, h3⟩ := key.1 ⟨row, hrw, h1⟩
  refine ⟨fun r' hr2 => ?_, h3⟩
  by_cases e : r = r'
  ·subst e; exact h2
  ·have := hw r' hr2; rwa [getD_set_ne e] at this
 ·rintro ⟨hw, ha⟩
  obtain ⟨row, hrw, hin⟩ := key.2 ⟨hw r hr, ha⟩
  have hlr := narrowL_length hrw
  have hsz : Shape b (x.wea.set r row) := ⟨by rw [List.length_set]; exact hx.len, fun l hl => by
   rcases List.mem_or_eq_of_mem_set hl with hm | rfl
   ·exact hx.row l hm
   ·rw [hlr]; exact hlen⟩
  refine ⟨⟨x.org ++ [((r : Int), (y : Int))], x.wea.set r row⟩, by rw [hrw]; rfl, (win_row hsz).2 fun r' hr2 => ?_⟩
  by_cases e : r = r'
  ·subst e; show InRow ((x.wea.set r row).getD r []) _; rw [getD_set_eq hr']; exact hin
  ·show InRow ((x.wea.set r row).getD r' []) _; rw [getD_set_ne e]; exact hw r' hr2
/-- What an origin of a shell is held to by a sack. -/
def OkAt (b : Book) (s : Sack) (W : List (List Int)) (i : Nat) (o : Org) : Prop := o ∈ originsOf b (shellAt s i).rings.length ∧ testedB b s.tests i o = true ∧ Asks b (shellAt s i) o W
theorem truths_iff {b : Book} {s : Sack} (hB : BookB b) (hS : SackB s) (W : List (List Int)) : ∀ (f : Nat) (x : State) (os : List Org), StateB b x → x.org.length + f = s.shells.length → os.length = f →
  ((∃ y, y ∈ truthsFrom b s f x ∧ y.org = x.org ++ os ∧ Win b y.wea W) ↔ Win b x.wea W ∧ ∀ j o, os[j]? = some o → OkAt b s W (x.org.length + j) o)
 | 0, x, os, hx, hl, ho => by
  have : os = [] := List.eq_nil_of_length_eq_zero ho
  subst this
  constructor
  ·rintro ⟨y, h1, h2, h3⟩
   rw [show truthsFrom b s 0 x = [x] from rfl, List.mem_singleton] at h1
   subst h1
   exact ⟨h3, fun j o h => by simp at h⟩
  ·rintro ⟨h, _⟩
   exact ⟨x, List.mem_singleton.2 rfl, by simp, h⟩
 | f + 1, x, [], hx, hl, ho => by simp at ho
 | f + 1, x, o :: os, hx, hl, ho => by
  have hlt : x.org.length < s.shells.length := by omega
  have hsh : shellAt s x.org.length ∈ s.shells := by
   unfold shellAt; rw [List.getD_eq_getElem?_getD, List.getElem?_eq_getElem hlt]; exact List.getElem_mem hlt
  have n1 := (hS.shell _ hsh).n1
  have hn2 := hS.n2
  have hall : (∀ j o', (o :: os)[j]? = some o' → OkAt b s W (x.org.length + j) o') ↔ OkAt b s W x.org.length o ∧ ∀ j o', os[j]? = some o' → OkAt b s W (x.org.length + 1 + j) o' := by
   constructor
   ·intro h
    exact ⟨h 0 o rfl, fun j o' hj => by have := h (j + 1) o' (by simpa using hj); rwa [show x.org.length + (j + 1) = x.org.length + 1 + j by omega] at this⟩
   ·rintro ⟨h1, h2⟩ j o' hj
    cases j with
    | zero => have : o = o' := by simpa using hj
              subst this; exact h1
    | succ j => have := h2 j o' (by simpa using hj); rwa [show x.org.length + (j + 1) = x.org.length + 1 + j by omega]
  rw [hall]
  constructor
  ·rintro ⟨y, h1, h2, h3⟩
   obtain ⟨o', z, ho', hz, hy⟩ := truAt_mem h1
   have hw := nexts_with hz
   obtain ⟨hzb, hzo⟩ := StateB.with hx (by omega) hw
   have hzl : z.org.length = x.org.length + 1 := by rw [hzo]; simp
   obtain ⟨os', hos'⟩ : ∃ os', y.org = z.org ++ os' := by
    have key : ∀ (f : Nat) (x y : State), StateB b x → x.org.length + f = s.shells.length → y ∈ truthsFrom b s f x → ∃ t, y.org = x.org ++ t := by
     intro f
     induction f with
     | zero => intro x y _ _ h; rw [show truthsFrom b s 0 x = [x] from rfl, List.mem_singleton] at h; exact ⟨[], by rw [h]; simp⟩
     | succ f ih =>
      intro x y hx hl h
      obtain ⟨o, z, ho, hz, hy⟩ := truAt_mem h
      obtain ⟨hzb, hzo⟩ := StateB.with hx (by omega) (nexts_with hz)
      obtain ⟨t, ht⟩ := ih z y hzb (by rw [hzo]; simp; omega) hy
      exact ⟨o :: t, by rw [ht, hzo]; simp⟩
    exact key f z y hzb (by omega) hy
   have he : o' = o ∧ os' = os := by
    have : x.org ++ (o :: os) = x.org ++ (o' :: os') := by rw [← h2, hos', hzo]; simp
    have := List.append_cancel_left this
    injection this with e1 e2
    exact ⟨e1.symm, e2.symm⟩
   obtain ⟨rfl, rfl⟩ := he
   obtain ⟨g1, g2⟩ := (truths_iff hB hS W f z os' hzb (by omega) (by simpa using ho)).1 ⟨y, hy, hos', h3⟩
   obtain ⟨g3, g4⟩ := (with_iff hB hx n1 ho' W).1 ⟨z, hw, g1⟩
   refine ⟨g3, ⟨ho', ?_, g4⟩, fun j o' hj => by rw [← hzl]; exact g2 j o' hj⟩
   unfold nextsOf at hz
   split at hz
   ·assumption
   ·cases hz
  ·rintro ⟨hw, ⟨h1, h2, h3⟩, h4⟩
   obtain ⟨z, hz, hzw⟩ := (with_iff hB hx n1 h1 W).2 ⟨hw, h3⟩
   obtain ⟨hzb, hzo⟩ := StateB.with hx (by omega) hz
   have hzl : z.org.length = x.org.length + 1 := by rw [hzo]; simp
   obtain ⟨y, hy, g1, g2⟩ := (truths_iff hB hS W f z os hzb (by omega) (by simpa using ho)).2 ⟨hzw, fun j o' hj => by rw [hzl]; exact h4 j o' hj⟩
   refine ⟨y, ?_, by rw [g1, hzo]; simp, g2⟩
   rw [truthsFrom_succ, List.mem_flatMap]
   refine ⟨o, h1, ?_⟩
   have : nextsOf b s x o = some z := by unfold nextsOf; rw [if_pos h2]; exact hz
   unfold truAt; rw [this]; exact hy
/-- Something true of a sack. -/
def FitsP (b : Book) (s : Sack) (x : Truth) : Prop := x.org.length = s.shells.length ∧ Win b (beginB b).wea x.wea ∧ ∀ j o, x.org[j]? = some o → OkAt b s x.wea j o
theorem fits_truth {b : Book} {s : Sack} (hB : BookB b) (hS : SackB s) {x : Truth} (hx : x.org.length = s.shells.length) : FitsP b s x ↔ ∃ y, y ∈ truthsOf b s ∧ y.org = x.org ∧ Win b y.wea x.wea := by
 have := truths_iff hB hS x.wea s.shells.length (beginB b) x.org (StateB.begin hB) (by simp [beginB]) hx
 unfold truthsOf FitsP
 simp only [beginB, List.nil_append, List.length_nil, Nat.zero_add] at this ⊢
 rw [this]
 exact ⟨fun h => ⟨h.2.1, h.2.2⟩, fun h => ⟨hx, h.1, h.2⟩⟩
/-! ### Every state of truths leaves some weather -/
def Solid (p : Rows2) : Prop := ∀ row, row ∈ p → ∀ g, g ∈ row → g.1 ≤ g.2
theorem narrow_solid (off : Int) : ∀ (ns : List Int) (p : Nat) (row z : List (Int × Int)), (∀ g, g ∈ row → g.1 ≤ g.2) → narrowL off ns p row = some z → ∀ g, g ∈ z → g.1 ≤ g.2
 | [], p, row, z, h, hz => by cases hz; exact h
 | n :: ns, p, row, z, h, hz => by
  unfold narrowL at hz
  split at hz
  ·cases hz
  ·rename_i hc
   refine narrow_solid off ns (p + 1) _ z (fun g hg => ?_) hz
   rcases List.mem_or_eq_of_mem_set hg with hm | rfl
   ·exact h g hm
   ·omega
theorem getD_mem {α : Type} {l : List α} {i : Nat} {d : α} (h : i < l.length) : l.getD i d ∈ l := by
 rw [List.getD_eq_getElem?_getD, List.getElem?_eq_getElem h]; exact List.getElem_mem h
theorem with_solid {b : Book} {x z : State} {s : Shell} {o : Org} (h : Solid x.wea) (hw : withB b x s o = some z) : Solid z.wea := by
 unfold withB at hw
 rw [Option.map_eq_some_iff] at hw
 obtain ⟨row, hr, rfl⟩ := hw
 intro l hl
 rcases List.mem_or_eq_of_mem_set hl with hm | rfl
 ·exact h l hm
 ·refine narrow_solid _ _ _ _ _ (fun g hg => ?_) hr
  by_cases hi : o.1.toNat < x.wea.length
  ·exact h _ (getD_mem hi) g hg
  ·rw [List.getD_eq_getElem?_getD, List.getElem?_eq_none (by omega)] at hg; simp at hg
theorem truths_solid {b : Book} {s : Sack} : ∀ (f : Nat) (x y : State), Solid x.wea → y ∈ truthsFrom b s f x → Solid y.wea
 | 0, x, y, h, hy => by rw [show truthsFrom b s 0 x = [x] from rfl, List.mem_singleton] at hy; subst hy; exact h
 | f + 1, x, y, h, hy => by
  obtain ⟨o, z, ho, hz, hyz⟩ := truAt_mem hy
  exact truths_solid f z y (with_solid h (nexts_with hz)) hyz
theorem begin_solid {b : Book} (hB : BookB b) : Solid (beginB b).wea := by
 intro row hr g hg
 simp only [beginB, List.mem_map] at hr
 obtain ⟨r, hr, rfl⟩ := hr
 exact (hB.span r hr g hg).2.1
theorem truth_solid {b : Book} {s : Sack} (hB : BookB b) {y : State} (h : y ∈ truthsOf b s) : Solid y.wea := truths_solid _ _ _ (begin_solid hB) h
def lows (p : Rows2) : List (List Int) := p.map fun row => row.map Prod.fst
def highs (p : Rows2) : List (List Int) := p.map fun row => row.map Prod.snd
theorem w2_map (f : Int × Int → Int) (hf : f (0, 0) = 0) (p : Rows2) (r y : Nat) : w2 (p.map fun row => row.map f) r y = f (at2 p r y) := by
 unfold w2 at2
 simp only [List.getD_eq_getElem?_getD, List.getElem?_map]
 cases p[r]? with
 | none => simp [hf]
 | some row =>
  simp only [Option.map_some, Option.getD_some, List.getElem?_map]
  cases row[y]? with
  | none => simp [hf]
  | some g => simp
theorem at2_mem {b : Book} {p : Rows2} (hs : Shape b p) {r y : Nat} (hr : r < b.rivers.length) (hy : (y : Int) < b.years) : ∃ row, row ∈ p ∧ at2 p r y ∈ row := by
 have hr' : r < p.length := by rw [hs.1]; exact hr
 have hm : p.getD r [] ∈ p := getD_mem hr'
 exact ⟨_, hm, getD_mem (by have := hs.2 _ hm; omega)⟩
theorem win_lows {b : Book} {p : Rows2} (hs : Shape b p) (h : Solid p) : Win b p (lows p) := fun r y hr hy => by
 obtain ⟨row, h1, h2⟩ := at2_mem hs hr hy
 have := h row h1 _ h2
 unfold lows
 rw [w2_map _ rfl]
 omega
theorem win_highs {b : Book} {p : Rows2} (hs : Shape b p) (h : Solid p) : Win b p (highs p) := fun r y hr hy => by
 obtain ⟨row, h1, h2⟩ := at2_mem hs hr hy
 have := h row h1 _ h2
 unfold highs
 rw [w2_map _ rfl]
 omega
/-- A state of truths, with its least or greatest weather, is true. -/
theorem fits_low {b : Book} {s : Sack} (hB : BookB b) (hS : SackB s) {y : State} (h : y ∈ truthsOf b s) : FitsP b s ⟨lows y.wea, y.org⟩ ∧ FitsP b s ⟨highs y.wea, y.org⟩ := by
 obtain ⟨h1, h2, _⟩ := truth_facts hB hS h
 exact ⟨(fits_truth hB hS h2).2 ⟨y, h, rfl, win_lows (shape_state h1) (truth_solid hB h)⟩, (fits_truth hB hS h2).2 ⟨y, h, rfl, win_highs (shape_state h1) (truth_solid hB h)⟩⟩
/-! ### What is known, by truths -/
theorem poss_truth {b : Book} {s : Sack} (h : possB b s = true) : ∃ y, y ∈ truthsOf b s := by
 unfold possB at h
 cases ht : truthsOf b s with
 | nil => rw [ht] at h; simp at h
 | cons y _ => exact ⟨y, by simp⟩
theorem shell_mem {s : Sack} {i : Nat} (hi : i < s.shells.length) : shellAt s i ∈ s.shells := getD_mem hi
/-! ### Weather -/
/-! ### Patterns -/
/-- The pattern of origins. -/
def patO (b : Book) (os : List Org) : Nat := patternOf b ⟨os, []⟩
theorem patO_eq (b : Book) (x : State) : patternOf b x = patO b x.org := rfl
theorem patO_lt (b : Book) (os : List Org) : patO b os < 2 ^ os.length := by
 unfold patO; rw [patternOf_eq]; exact patTo_lt b _ _
theorem pats_truth {b : Book} {s : Sack} (hB : BookB b) (hS : SackB s) {p : Nat} (h : p ∈ patternsOf b s) : ∃ x, FitsP b s x ∧ patO b x.org = p := by
 unfold patternsOf at h
 rw [List.mem_filter, List.any_eq_true] at h
 obtain ⟨_, y, hy, he⟩ := h
 exact ⟨_, (fits_low hB hS hy).1, by rw [patO_eq] at he; simpa using he⟩
/-! ### How many shells are of closed years -/
/-! ### One shell more, one test more -/
/-! ### A test, and what it says -/
/-! ### What Fits answers -/
end Go.Proofs.YtiodjapdiflphaaGreatDoor

/- Whoever tests as told, in plain Lean. -/
namespace Go.Proofs.YtiodjapdiflphaaGreatDoor
/-! ### The best test -/
theorem pats_two {b : Book} {s : Sack} (hB : BookB b) (hS : SackB s) : ∀ p, p ∈ patternsOf b s → p < 2 ^ s.shells.length := fun p hp => by
 obtain ⟨x, hx, rfl⟩ := pats_truth hB hS hp
 have := patO_lt b x.org
 rwa [hx.1] at this
/-! ### Whoever tests as told -/
end Go.Proofs.YtiodjapdiflphaaGreatDoor

/- The tests over marks, in plain Lean. -/
namespace Go.Proofs.YtiodjapdiflphaaGreatDoor
/-! ### The reference's tests: patterns as marks -/
def marksOf (n : Nat) (l : List Nat) : List Bool := (List.range n).map fun p => decide (p ∈ l)
theorem marks_at {n : Nat} {l : List Nat} {p : Nat} (h : p < n) : (marksOf n l)[p]? = some (decide (p ∈ l)) := by unfold marksOf; rw [List.getElem?_map, List.getElem?_range h]; rfl
def countB : Nat → Nat → Nat
 | 0, _ => 0
 | f + 1, p => if p = 0 then 0 else p % 2 + countB f (p / 2)
theorem count_many : ∀ p, p < 16 → countB 4 p = manyB p := by decide +kernel
end Go.Proofs.YtiodjapdiflphaaGreatDoor

/- What the reference keeps over all truths, in plain Lean. -/
namespace Go.Proofs.YtiodjapdiflphaaGreatDoor
/-! ### What the reference keeps over all truths -/
def orgCell (b : Book) (o : Org) : Nat := o.1.toNat * b.years.toNat + o.2.toNat
def ownRow (b : Book) (s : Sack) (k i : Nat) : List Bool := (List.range (b.rivers.length * b.years.toNat)).map fun j => ((truthsOf b s).take k).any fun x => orgCell b (orgAt x i) == j
def patsTo (b : Book) (s : Sack) (k : Nat) : List Bool := (List.range (2 ^ s.shells.length)).map fun p => ((truthsOf b s).take k).any fun x => patternOf b x == p
def weaA (b : Book) (s : Sack) (k : Nat) : Rows2 := if k = 0 then (beginB b).wea else weaTo b s k
theorem map_set {f : Nat → Bool} {n j : Nat} : ((List.range n).map f).set j true = (List.range n).map fun i => f i || j == i := by
 apply List.ext_getElem?
 intro i
 rw [List.getElem?_set, List.getElem?_map, List.getElem?_map, List.length_map, List.length_range]
 by_cases e : j = i
 ·subst e
  rw [if_pos rfl]
  by_cases h : j < n
  ·rw [if_pos h, List.getElem?_range h]; simp
  ·rw [if_neg h, List.getElem?_eq_none (by simp; omega)]; rfl
 ·rw [if_neg e]
  by_cases h : i < n
  ·rw [List.getElem?_range h]; simp [e]
  ·rw [List.getElem?_eq_none (by simp; omega)]; rfl
theorem take_any {α : Type} {l : List α} {k : Nat} {x : α} (h : l[k]? = some x) (f : α → Bool) : (l.take (k + 1)).any f = ((l.take k).any f || f x) := by
 rw [List.take_add_one, h, List.any_append]; simp
theorem ownRow_succ {b : Book} {s : Sack} {k : Nat} {x : State} (h : (truthsOf b s)[k]? = some x) (i : Nat) : ownRow b s (k + 1) i = (ownRow b s k i).set (orgCell b (orgAt x i)) true := by
 unfold ownRow
 rw [map_set]
 refine List.map_congr_left fun j _ => ?_
 rw [take_any h]
theorem patsTo_succ {b : Book} {s : Sack} {k : Nat} {x : State} (h : (truthsOf b s)[k]? = some x) : patsTo b s (k + 1) = (patsTo b s k).set (patternOf b x) true := by
 unfold patsTo
 rw [map_set]
 refine List.map_congr_left fun j _ => ?_
 rw [take_any h]
theorem weaA_succ {b : Book} {s : Sack} {k : Nat} {x : State} (h : (truthsOf b s)[k]? = some x) : weaA b s (k + 1) = if k = 0 then x.wea else hulls (weaA b s k) x.wea := by
 unfold weaA
 rw [if_neg (by omega), weaTo_succ h]
 unfold weaPre
 by_cases e : k = 0
 ·rw [if_pos e, if_pos e, hulls_self]
 ·rw [if_neg e, if_neg e, if_neg e]
theorem ownRow_zero (b : Book) (s : Sack) (i : Nat) : ownRow b s 0 i = List.replicate (b.rivers.length * b.years.toNat) false := by
 unfold ownRow
 rw [List.eq_replicate_iff]
 refine ⟨by simp, fun c hc => ?_⟩
 rw [List.mem_map] at hc
 obtain ⟨j, _, rfl⟩ := hc
 simp
theorem patsTo_zero (b : Book) (s : Sack) : patsTo b s 0 = List.replicate (2 ^ s.shells.length) false := by
 unfold patsTo
 rw [List.eq_replicate_iff]
 refine ⟨by simp, fun c hc => ?_⟩
 rw [List.mem_map] at hc
 obtain ⟨j, _, rfl⟩ := hc
 simp
/-! ### .. and what that says at the end -/
theorem pats_marks {b : Book} {s : Sack} (hS : SackB s) : patsTo b s (truthsOf b s).length = marksOf (2 ^ s.shells.length) (patternsOf b s) := by
 unfold patsTo marksOf
 refine List.map_congr_left fun p hp => ?_
 rw [List.take_length, Bool.eq_iff_iff, decide_eq_true_eq]
 have hlt := List.mem_range.1 hp
 have hn := hS.n2
 have h16 : p < 16 := Nat.lt_of_lt_of_le hlt (Nat.le_trans (Nat.pow_le_pow_right (by decide) (by omega : s.shells.length ≤ 4)) (by decide))
 unfold patternsOf
 rw [List.mem_filter, List.mem_range]
 exact ⟨fun h => ⟨h16, h⟩, fun h => h.2⟩
theorem pats_range {b : Book} {s : Sack} (hB : BookB b) (hS : SackB s) : patternsOf b s = (List.range (2 ^ s.shells.length)).filter fun p => decide (p ∈ patternsOf b s) := by
 have key : ∀ (n : Nat) (l : List Nat), l.Pairwise (fun a c => a < c) → (∀ p, p ∈ l → p < n) → l = (List.range n).filter fun p => decide (p ∈ l) := by
  intro n l h1 h2
  refine List.Perm.eq_of_pairwise (le := fun a c => a ≤ c) (fun a c _ _ h k => Nat.le_antisymm h k) (h1.imp Nat.le_of_lt) ((List.pairwise_lt_range.filter _).imp Nat.le_of_lt) ?_
  refine (List.perm_ext_iff_of_nodup (h1.imp Nat.ne_of_lt) ((List.pairwise_lt_range.filter _).imp Nat.ne_of_lt)).2 fun p => ?_
  rw [List.mem_filter, List.mem_range, decide_eq_true_eq]
  exact ⟨fun h => ⟨h2 p h, h⟩, fun h => h.2⟩
 exact key _ _ (patterns_B b s).up (pats_two hB hS)
theorem wea_end {b : Book} {s : Sack} (hp : possB b s = true) : weaA b s (truthsOf b s).length = weatherOf b s := by
 obtain ⟨y, hy⟩ := poss_truth hp
 unfold weaA
 rw [if_neg (by have := List.length_pos_of_mem hy; omega), weaTo_all]
/-- The origins that are marked, in order. -/
def ofTo (b : Book) (l : List Bool) (k : Nat) : List Org := ((List.range k).filter fun i => l.getD i false).map fun (i : Nat) => (((i / b.years.toNat : Nat) : Int), ((i % b.years.toNat : Nat) : Int))
theorem ofTo_succ (b : Book) (l : List Bool) (k : Nat) : ofTo b l (k + 1) = if l.getD k false then ofTo b l k ++ [(((k / b.years.toNat : Nat) : Int), ((k % b.years.toNat : Nat) : Int))] else ofTo b l k := by
 unfold ofTo
 have h1 : [k].filter (fun i => l.getD i false) = if l.getD k false then [k] else [] := by simp only [List.filter_cons, List.filter_nil]
 rw [List.range_succ, List.filter_append, List.map_append, h1]
 cases l.getD k false <;> simp only [Bool.false_eq_true, if_false, if_true, List.map_nil, List.append_nil, List.map_cons]
theorem of_end {b : Book} {s : Sack} (hB : BookB b) (hS : SackB s) {i : Nat} (hi : i < s.shells.length) : ofTo b (ownRow b s (truthsOf b s).length i) (b.rivers.length * b.years.toNat) = couldOf b s i := by
 have hy1 := hB.y1
 have hY : 0 < b.years.toNat := by omega
 have hn1 := (hS.shell _ (shell_mem hi)).n1
 -- both are in order
 have hlt : ∀ a c : Nat, a < c → ltO (((a / b.years.toNat : Nat) : Int), ((a % b.years.toNat : Nat) : Int)) (((c / b.years.toNat : Nat) : Int), ((c % b.years.toNat : Nat) : Int)) = true := by
  intro a c h
  have h1 := Nat.div_add_mod a b.years.toNat
  have h2 := Nat.div_add_mod c b.years.toNat
  have h3 : a / b.years.toNat ≤ c / b.years.toNat := Nat.div_le_div_right (Nat.le_of_lt h)
  unfold ltO
  simp only
  rcases Nat.lt_or_ge (a / b.years.toNat) (c / b.years.toNat) with e | e
  ·rw [Bool.or_eq_true, decide_eq_true_eq]; left; exact Int.ofNat_lt.2 e
  ·have e2 : a / b.years.toNat = c / b.years.toNat := Nat.le_antisymm h3 e
   rw [e2] at h1
   rw [Bool.or_eq_true, Bool.and_eq_true, decide_eq_true_eq, decide_eq_true_eq, decide_eq_true_eq]
   right
   exact ⟨by rw [e2], Int.ofNat_lt.2 (by omega)⟩
 refine List.Perm.eq_of_pairwise (le := fun x y => ltO x y = true) (fun x y _ _ h k => by rw [ltO_asymm h] at k; cases k) ?_ ((originsOf_sorted b _).filter _) ?_
 ·unfold ofTo
  rw [List.pairwise_map]
  exact (List.pairwise_lt_range.filter _).imp (fun {a c} h => hlt a c h)
 ·have nd : ∀ l : List Org, l.Pairwise (fun x y => ltO x y = true) → l.Nodup := fun l h => h.imp (fun {x y} h e => by subst e; rw [ltO_irrefl] at h; cases h)
  refine (List.perm_ext_iff_of_nodup (nd _ ?_) (nd _ ((originsOf_sorted b _).filter _))).2 fun o => ?_
  ·unfold ofTo
   rw [List.pairwise_map]
   exact (List.pairwise_lt_range.filter _).imp (fun {a c} h => hlt a c h)
  ·unfold ofTo
   rw [List.mem_map, List.mem_filter, List.any_eq_true]
   have hrow : ∀ j, j < b.rivers.length * b.years.toNat → (ownRow b s (truthsOf b s).length i).getD j false = (truthsOf b s).any fun x => orgCell b (orgAt x i) == j := by
    intro j hj
    unfold ownRow
    rw [List.take_length, List.getD_eq_getElem?_getD, List.getElem?_map, List.getElem?_range hj]; rfl
   have hcell : ∀ (r y : Nat), (y : Int) < b.years → orgCell b ((r : Int), (y : Int)) / b.years.toNat = r ∧ orgCell b ((r : Int), (y : Int)) % b.years.toNat = y := by
    intro r y hy
    unfold orgCell
    simp only [Int.toNat_natCast]
    have : y < b.years.toNat := by omega
    exact ⟨by rw [Nat.mul_comm, Nat.mul_add_div hY, Nat.div_eq_of_lt this]; simp, by rw [Nat.mul_comm, Nat.mul_add_mod, Nat.mod_eq_of_lt this]⟩
   constructor
   ·rintro ⟨j, hj, rfl⟩
    rw [List.mem_filter, List.mem_range] at hj
    obtain ⟨hj1, hj2⟩ := hj
    rw [hrow j hj1, List.any_eq_true] at hj2
    obtain ⟨x, hx, he⟩ := hj2
    have ho := (truth_facts hB hS hx).2.2 i hi
    obtain ⟨r, y, hry, h1, h2, h3⟩ := originsOf_mem hB hn1 ho
    have he' : orgCell b (orgAt x i) = j := by simpa using he
    obtain ⟨c1, c2⟩ := hcell r y h2
    rw [hry] at he'
    rw [← he', c1, c2, ← hry]
    exact ⟨ho, x, hx, by simp⟩
   ·rintro ⟨ho, x, hx, he⟩
    have he' : orgAt x i = o := by simpa using he
    obtain ⟨r, y, rfl, h1, h2, h3⟩ := originsOf_mem hB hn1 ho
    obtain ⟨c1, c2⟩ := hcell r y h2
    have hlt2 : orgCell b ((r : Int), (y : Int)) < b.rivers.length * b.years.toNat := by
     unfold orgCell
     simp only [Int.toNat_natCast]
     have e1 : (r + 1) * b.years.toNat ≤ b.rivers.length * b.years.toNat := Nat.mul_le_mul_right _ h1
     have e2 : (r + 1) * b.years.toNat = r * b.years.toNat + b.years.toNat := Nat.succ_mul _ _
     omega
    refine ⟨orgCell b ((r : Int), (y : Int)), ?_, by rw [c1, c2]⟩
    rw [List.mem_filter, List.mem_range]
    refine ⟨hlt2, ?_⟩
    rw [hrow _ hlt2, List.any_eq_true]
    exact ⟨x, hx, by rw [he']; simp⟩
/-- The bounds on how many shells are of closed years, over marks. -/
def manyTill (l : List Nat) (m k : Nat) : Int × Int := (((List.range k).filter fun p => decide (p ∈ l)).foldl (fun o p => (min o.1 (manyB p), max o.2 (manyB p))) ((m : Int), 0))
theorem manyTill_succ (l : List Nat) (m k : Nat) : manyTill l m (k + 1) = if k ∈ l then (min (manyTill l m k).1 (manyB k), max (manyTill l m k).2 (manyB k)) else manyTill l m k := by
 unfold manyTill
 rw [List.range_succ, List.filter_append, List.foldl_append]
 by_cases h : k ∈ l
 ·rw [if_pos h]; simp only [List.filter_cons, List.filter_nil, decide_eq_true h, if_true, List.foldl_cons, List.foldl_nil]
 ·rw [if_neg h]; simp only [List.filter_cons, List.filter_nil, decide_eq_false h, Bool.false_eq_true, if_false, List.foldl_nil]
theorem many_end {b : Book} {s : Sack} (hB : BookB b) (hS : SackB s) : manyTill (patternsOf b s) s.shells.length (2 ^ s.shells.length) = closedOf b s := by
 unfold manyTill closedOf
 rw [← pats_range hB hS]
end Go.Proofs.YtiodjapdiflphaaGreatDoor
