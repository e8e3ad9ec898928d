/- What is true of a sack, in plain Lean: truths of weather and origins, and what is known by them; one shell more, one test more. -/
import Derived.Test.YtnhpibnneidmgaaGreatDoorOnep
import Derived.Test.YtnhpibnneidmgaaGreatDoorWeaw
import Derived.Test.YtnhpibnneidmgaaGreatDoorFitd
import Derived.Test.YtnhpibnneidmgaaGreatDoorTests
namespace Go.Proofs.YtnhpibnneidmgaaGreatDoor
/-! ### What a truth is, plainly -/
def at2 (p : Rows2) (r y : Nat) : Int × Int := (p.getD r []).getD y (0, 0)
def InRow (row : List (Int × Int)) (V : Nat → Int) : Prop := ∀ y, y < row.length → (row.getD y (0, 0)).1 ≤ V y ∧ V y ≤ (row.getD y (0, 0)).2
def Agree (off : Int) (ns : List Int) (p : Nat) (V : Nat → Int) : Prop := ∀ i, i < ns.length → -off ≤ ns.getD i 0 - V (p + i) ∧ ns.getD i 0 - V (p + i) ≤ off
theorem getD_set_eq {α : Type} {l : List α} {i : Nat} {x d : α} (h : i < l.length) : (l.set i x).getD i d = x := by
 rw [List.getD_eq_getElem?_getD, List.getElem?_set_self h]; rfl
theorem narrow_iff (off : Int) (V : Nat → Int) : ∀ (ns : List Int) (p : Nat) (row : List (Int × Int)), p + ns.length ≤ row.length →
  ((∃ z, narrowL off ns p row = some z ∧ InRow z V) ↔ InRow row V ∧ Agree off ns p V)
 | [], p, row, _ => by
  constructor
  ·rintro ⟨z, h1, h2⟩; cases h1; exact ⟨h2, fun i hi => absurd hi (Nat.not_lt_zero _)⟩
  ·rintro ⟨h, _⟩; exact ⟨row, rfl, h⟩
 | n :: ns, p, row, hl => by
  have hp : p < row.length := by simp only [List.length_cons] at hl; omega
  have hag : Agree off (n :: ns) p V ↔ (-off ≤ n - V p ∧ n - V p ≤ off) ∧ Agree off ns (p + 1) V := by
   constructor
   ·intro h
    refine ⟨by have := h 0 (by simp); simpa using this, fun i hi => ?_⟩
    have := h (i + 1) (by simp; omega)
    rw [show p + (i + 1) = p + 1 + i by omega] at this
    simpa using this
   ·rintro ⟨h1, h2⟩ i hi
    cases i with
    | zero => simpa using h1
    | succ i =>
     have := h2 i (by simp only [List.length_cons] at hi; omega)
     rw [show p + (i + 1) = p + 1 + i by omega]
     simpa using this
  have hin : InRow (row.set p (meet (row.getD p (0, 0)) n off)) V ↔ InRow row V ∧ -off ≤ n - V p ∧ n - V p ≤ off := by
   constructor
   ·intro h
    have h0 := h p (by simpa using hp)
    rw [getD_set_eq hp] at h0
    unfold meet at h0
    simp only at h0
    refine ⟨fun y hy => ?_, by omega, by omega⟩
    by_cases e : p = y
    ·subst e; omega
    ·have := h y (by simpa using hy); rwa [getD_set_ne e] at this
   ·rintro ⟨h, h1, h2⟩ y hy
    rw [List.length_set] at hy
    by_cases e : p = y
    ·subst e
     rw [getD_set_eq hp]
     have := h p hp
     unfold meet; simp only; omega
    ·rw [getD_set_ne e]; exact h y hy
  unfold narrowL
  by_cases hc : (meet (row.getD p (0, 0)) n off).2 < (meet (row.getD p (0, 0)) n off).1
  ·rw [if_pos hc]
   constructor
   ·rintro ⟨z, h, _⟩; cases h
   ·rintro ⟨h1, h2⟩
    have h3 := (hag.1 h2).1
    have h4 := h1 p hp
    unfold meet at hc; simp only at hc; omega
  ·rw [if_neg hc, narrow_iff off V ns (p + 1) _ (by simp only [List.length_cons] at hl; rw [List.length_set]; omega), hin, hag]
   constructor
   ·rintro ⟨⟨h1, h2⟩, h3⟩; exact ⟨h1, h2, h3⟩
   ·rintro ⟨h1, h2, h3⟩; exact ⟨⟨h1, h2⟩, h3⟩
/-- The weather lies within the spans. -/
def Win (b : Book) (p : Rows2) (W : List (List Int)) : Prop := ∀ r y : Nat, r < b.rivers.length → (y : Int) < b.years → (at2 p r y).1 ≤ w2 W r y ∧ w2 W r y ≤ (at2 p r y).2
theorem win_row {b : Book} {p : Rows2} {W : List (List Int)} (hs : Shape b p) : Win b p W ↔ ∀ r, r < b.rivers.length → InRow (p.getD r []) (w2 W r) := by
 constructor
 ·intro h r hr y hy
  have hr' : r < p.length := by rw [hs.1]; exact hr
  have : p.getD r [] = p[r] := by rw [List.getD_eq_getElem?_getD, List.getElem?_eq_getElem hr']; rfl
  have hl := hs.2 _ (List.getElem_mem hr')
  rw [this] at hy
  exact h r y hr (by omega)
 ·intro h r y hr hy
  have hr' : r < p.length := by rw [hs.1]; exact hr
  have : p.getD r [] = p[r] := by rw [List.getD_eq_getElem?_getD, List.getElem?_eq_getElem hr']; rfl
  have hl := hs.2 _ (List.getElem_mem hr')
  exact h r hr y (by rw [this]; omega)
theorem shape_state {b : Book} {x : State} (h : StateB b x) : Shape b x.wea := ⟨h.len, h.row⟩
/-- What a shell and its origin ask of the weather. -/
def Asks (b : Book) (s : Shell) (o : Org) (W : List (List Int)) : Prop := Agree ((riverOf b o.1).vary + s.off) s.rings (firstY o s) (w2 W o.1.toNat)
theorem with_iff {b : Book} (hB : BookB b) {x : State} (hx : StateB b x) {s : Shell} (n1 : 1 ≤ s.rings.length) {o : Org} (ho : o ∈ originsOf b s.rings.length) (W : List (List Int)) :
  (∃ z, withB b x s o = some z ∧ Win b z.wea W) ↔ Win b x.wea W ∧ Asks b s o W := by
 obtain ⟨r, y, rfl, hr, hy, hn⟩ := originsOf_mem hB n1 ho
 have hr' : r < x.wea.length := by rw [hx.len]; exact hr
 have hrow : x.wea.getD r [] = x.wea[r] := by rw [List.getD_eq_getElem?_getD, List.getElem?_eq_getElem hr']; rfl
 have hlen : (x.wea.getD r []).length = b.years := by rw [hrow]; exact hx.row _ (List.getElem_mem hr')
 have hfy : firstY ((r : Int), (y : Int)) s = y + 1 - s.rings.length := by unfold firstY; simp
 have key := narrow_iff ((riverOf b (r : Int)).vary + s.off) (w2 W r) s.rings (y + 1 - s.rings.length) (x.wea.getD r []) (by omega)
 unfold Asks withB
 rw [hfy]
 simp only [Int.toNat_natCast]
 rw [win_row (shape_state hx)]
 constructor
 ·rintro ⟨z, hz, hw⟩
  rw [Option.map_eq_some_iff] at hz
  obtain ⟨row, hrw, rfl⟩ := hz
  have hlr := narrowL_length hrw
  have hsz : Shape b (x.wea.set r row) := ⟨by rw [List.length_set]; exact hx.len, fun l hl => by
   rcases List.mem_or_eq_of_mem_set hl with hm | rfl
   ·exact hx.row l hm
   ·rw [hlr]; exact hlen⟩
  rw [win_row hsz] at hw
  have h1 := hw r hr
  rw [getD_set_eq hr'] at h1
  obtain ⟨h2, h3⟩ := key.1 ⟨row, hrw, h1⟩
  refine ⟨fun r' hr2 => ?_, h3⟩
  by_cases e : r = r'
  ·subst e; exact h2
  ·have := hw r' hr2; rwa [getD_set_ne e] at this
 ·rintro ⟨hw, ha⟩
  obtain ⟨row, hrw, hin⟩ := key.2 ⟨hw r hr, ha⟩
  have hlr := narrowL_length hrw
  have hsz : Shape b (x.wea.set r row) := ⟨by rw [List.length_set]; exact hx.len, fun l hl => by
   rcases List.mem_or_eq_of_mem_set hl with hm | rfl
   ·exact hx.row l hm
   ·rw [hlr]; exact hlen⟩
  refine ⟨⟨x.org ++ [((r : Int), (y : Int))], x.wea.set r row⟩, by rw [hrw]; rfl, (win_row hsz).2 fun r' hr2 => ?_⟩
  by_cases e : r = r'
  ·subst e; show InRow ((x.wea.set r row).getD r []) _; rw [getD_set_eq hr']; exact hin
  ·show InRow ((x.wea.set r row).getD r' []) _; rw [getD_set_ne e]; exact hw r' hr2
/-- What an origin of a shell is held to by a sack. -/
def OkAt (b : Book) (s : Sack) (W : List (List Int)) (i : Nat) (o : Org) : Prop := o ∈ originsOf b (shellAt s i).rings.length ∧ testedB b s.tests i o = true ∧ Asks b (shellAt s i) o W
theorem truths_iff {b : Book} {s : Sack} (hB : BookB b) (hS : SackB s) (W : List (List Int)) : ∀ (f : Nat) (x : State) (os : List Org), StateB b x → x.org.length + f = s.shells.length → os.length = f →
  ((∃ y, y ∈ truthsFrom b s f x ∧ y.org = x.org ++ os ∧ Win b y.wea W) ↔ Win b x.wea W ∧ ∀ j o, os[j]? = some o → OkAt b s W (x.org.length + j) o)
 | 0, x, os, hx, hl, ho => by
  have : os = [] := List.eq_nil_of_length_eq_zero ho
  subst this
  constructor
  ·rintro ⟨y, h1, h2, h3⟩
   rw [show truthsFrom b s 0 x = [x] from rfl, List.mem_singleton] at h1
   subst h1
   exact ⟨h3, fun j o h => by simp at h⟩
  ·rintro ⟨h, _⟩
   exact ⟨x, List.mem_singleton.2 rfl, by simp, h⟩
 | f + 1, x, [], hx, hl, ho => by simp at ho
 | f + 1, x, o :: os, hx, hl, ho => by
  have hlt : x.org.length < s.shells.length := by omega
  have hsh : shellAt s x.org.length ∈ s.shells := by
   unfold shellAt; rw [List.getD_eq_getElem?_getD, List.getElem?_eq_getElem hlt]; exact List.getElem_mem hlt
  have n1 := (hS.shell _ hsh).n1
  have hn2 := hS.n2
  have hall : (∀ j o', (o :: os)[j]? = some o' → OkAt b s W (x.org.length + j) o') ↔ OkAt b s W x.org.length o ∧ ∀ j o', os[j]? = some o' → OkAt b s W (x.org.length + 1 + j) o' := by
   constructor
   ·intro h
    exact ⟨h 0 o rfl, fun j o' hj => by have := h (j + 1) o' (by simpa using hj); rwa [show x.org.length + (j + 1) = x.org.length + 1 + j by omega] at this⟩
   ·rintro ⟨h1, h2⟩ j o' hj
    cases j with
    | zero => have : o = o' := by simpa using hj
              subst this; exact h1
    | succ j => have := h2 j o' (by simpa using hj); rwa [show x.org.length + (j + 1) = x.org.length + 1 + j by omega]
  rw [hall]
  constructor
  ·rintro ⟨y, h1, h2, h3⟩
   obtain ⟨o', z, ho', hz, hy⟩ := truAt_mem h1
   have hw := nexts_with hz
   obtain ⟨hzb, hzo⟩ := StateB.with hx (by omega) hw
   have hzl : z.org.length = x.org.length + 1 := by rw [hzo]; simp
   obtain ⟨os', hos'⟩ : ∃ os', y.org = z.org ++ os' := by
    have key : ∀ (f : Nat) (x y : State), StateB b x → x.org.length + f = s.shells.length → y ∈ truthsFrom b s f x → ∃ t, y.org = x.org ++ t := by
     intro f
     induction f with
     | zero => intro x y _ _ h; rw [show truthsFrom b s 0 x = [x] from rfl, List.mem_singleton] at h; exact ⟨[], by rw [h]; simp⟩
     | succ f ih =>
      intro x y hx hl h
      obtain ⟨o, z, ho, hz, hy⟩ := truAt_mem h
      obtain ⟨hzb, hzo⟩ := StateB.with hx (by omega) (nexts_with hz)
      obtain ⟨t, ht⟩ := ih z y hzb (by rw [hzo]; simp; omega) hy
      exact ⟨o :: t, by rw [ht, hzo]; simp⟩
    exact key f z y hzb (by omega) hy
   have he : o' = o ∧ os' = os := by
    have : x.org ++ (o :: os) = x.org ++ (o' :: os') := by rw [← h2, hos', hzo]; simp
    have := List.append_cancel_left this
    injection this with e1 e2
    exact ⟨e1.symm, e2.symm⟩
   obtain ⟨rfl, rfl⟩ := he
   obtain ⟨g1, g2⟩ := (truths_iff hB hS W f z os' hzb (by omega) (by simpa using ho)).1 ⟨y, hy, hos', h3⟩
   obtain ⟨g3, g4⟩ := (with_iff hB hx n1 ho' W).1 ⟨z, hw, g1⟩
   refine ⟨g3, ⟨ho', ?_, g4⟩, fun j o' hj => by rw [← hzl]; exact g2 j o' hj⟩
   unfold nextsOf at hz
   split at hz
   ·assumption
   ·cases hz
  ·rintro ⟨hw, ⟨h1, h2, h3⟩, h4⟩
   obtain ⟨z, hz, hzw⟩ := (with_iff hB hx n1 h1 W).2 ⟨hw, h3⟩
   obtain ⟨hzb, hzo⟩ := StateB.with hx (by omega) hz
   have hzl : z.org.length = x.org.length + 1 := by rw [hzo]; simp
   obtain ⟨y, hy, g1, g2⟩ := (truths_iff hB hS W f z os hzb (by omega) (by simpa using ho)).2 ⟨hzw, fun j o' hj => by rw [hzl]; exact h4 j o' hj⟩
   refine ⟨y, ?_, by rw [g1, hzo]; simp, g2⟩
   rw [truthsFrom_succ, List.mem_flatMap]
   refine ⟨o, h1, ?_⟩
   have : nextsOf b s x o = some z := by unfold nextsOf; rw [if_pos h2]; exact hz
   unfold truAt; rw [this]; exact hy
/-- Something true of a sack. -/
def FitsP (b : Book) (s : Sack) (x : Truth) : Prop := x.org.length = s.shells.length ∧ Win b (beginB b).wea x.wea ∧ ∀ j o, x.org[j]? = some o → OkAt b s x.wea j o
theorem fits_truth {b : Book} {s : Sack} (hB : BookB b) (hS : SackB s) {x : Truth} (hx : x.org.length = s.shells.length) : FitsP b s x ↔ ∃ y, y ∈ truthsOf b s ∧ y.org = x.org ∧ Win b y.wea x.wea := by
 have := truths_iff hB hS x.wea s.shells.length (beginB b) x.org (StateB.begin hB) (by simp [beginB]) hx
 unfold truthsOf FitsP
 simp only [beginB, List.nil_append, List.length_nil, Nat.zero_add] at this ⊢
 rw [this]
 exact ⟨fun h => ⟨h.2.1, h.2.2⟩, fun h => ⟨hx, h.1, h.2⟩⟩
/-! ### Every state of truths leaves some weather -/
def Solid (p : Rows2) : Prop := ∀ row, row ∈ p → ∀ g, g ∈ row → g.1 ≤ g.2
theorem narrow_solid (off : Int) : ∀ (ns : List Int) (p : Nat) (row z : List (Int × Int)), (∀ g, g ∈ row → g.1 ≤ g.2) → narrowL off ns p row = some z → ∀ g, g ∈ z → g.1 ≤ g.2
 | [], p, row, z, h, hz => by cases hz; exact h
 | n :: ns, p, row, z, h, hz => by
  unfold narrowL at hz
  split at hz
  ·cases hz
  ·rename_i hc
   refine narrow_solid off ns (p + 1) _ z (fun g hg => ?_) hz
   rcases List.mem_or_eq_of_mem_set hg with hm | rfl
   ·exact h g hm
   ·omega
theorem getD_mem {α : Type} {l : List α} {i : Nat} {d : α} (h : i < l.length) : l.getD i d ∈ l := by
 rw [List.getD_eq_getElem?_getD, List.getElem?_eq_getElem h]; exact List.getElem_mem h
theorem with_solid {b : Book} {x z : State} {s : Shell} {o : Org} (h : Solid x.wea) (hw : withB b x s o = some z) : Solid z.wea := by
 unfold withB at hw
 rw [Option.map_eq_some_iff] at hw
 obtain ⟨row, hr, rfl⟩ := hw
 intro l hl
 rcases List.mem_or_eq_of_mem_set hl with hm | rfl
 ·exact h l hm
 ·refine narrow_solid _ _ _ _ _ (fun g hg => ?_) hr
  by_cases hi : o.1.toNat < x.wea.length
  ·exact h _ (getD_mem hi) g hg
  ·rw [List.getD_eq_getElem?_getD, List.getElem?_eq_none (by omega)] at hg; simp at hg
theorem truths_solid {b : Book} {s : Sack} : ∀ (f : Nat) (x y : State), Solid x.wea → y ∈ truthsFrom b s f x → Solid y.wea
 | 0, x, y, h, hy => by rw [show truthsFrom b s 0 x = [x] from rfl, List.mem_singleton] at hy; subst hy; exact h
 | f + 1, x, y, h, hy => by
  obtain ⟨o, z, ho, hz, hyz⟩ := truAt_mem hy
  exact truths_solid f z y (with_solid h (nexts_with hz)) hyz
theorem begin_solid {b : Book} (hB : BookB b) : Solid (beginB b).wea := by
 intro row hr g hg
 simp only [beginB, List.mem_map] at hr
 obtain ⟨r, hr, rfl⟩ := hr
 exact (hB.span r hr g hg).2.1
theorem truth_solid {b : Book} {s : Sack} (hB : BookB b) {y : State} (h : y ∈ truthsOf b s) : Solid y.wea := truths_solid _ _ _ (begin_solid hB) h
def lows (p : Rows2) : List (List Int) := p.map fun row => row.map Prod.fst
def highs (p : Rows2) : List (List Int) := p.map fun row => row.map Prod.snd
theorem w2_map (f : Int × Int → Int) (hf : f (0, 0) = 0) (p : Rows2) (r y : Nat) : w2 (p.map fun row => row.map f) r y = f (at2 p r y) := by
 unfold w2 at2
 simp only [List.getD_eq_getElem?_getD, List.getElem?_map]
 cases p[r]? with
 | none => simp [hf]
 | some row =>
  simp only [Option.map_some, Option.getD_some, List.getElem?_map]
  cases row[y]? with
  | none => simp [hf]
  | some g => simp
theorem at2_mem {b : Book} {p : Rows2} (hs : Shape b p) {r y : Nat} (hr : r < b.rivers.length) (hy : (y : Int) < b.years) : ∃ row, row ∈ p ∧ at2 p r y ∈ row := by
 have hr' : r < p.length := by rw [hs.1]; exact hr
 have hm : p.getD r [] ∈ p := getD_mem hr'
 exact ⟨_, hm, getD_mem (by have := hs.2 _ hm; omega)⟩
theorem win_lows {b : Book} {p : Rows2} (hs : Shape b p) (h : Solid p) : Win b p (lows p) := fun r y hr hy => by
 obtain ⟨row, h1, h2⟩ := at2_mem hs hr hy
 have := h row h1 _ h2
 unfold lows
 rw [w2_map _ rfl]
 omega
theorem win_highs {b : Book} {p : Rows2} (hs : Shape b p) (h : Solid p) : Win b p (highs p) := fun r y hr hy => by
 obtain ⟨row, h1, h2⟩ := at2_mem hs hr hy
 have := h row h1 _ h2
 unfold highs
 rw [w2_map _ rfl]
 omega
theorem w2_lows (p : Rows2) (r y : Nat) : w2 (lows p) r y = (at2 p r y).1 := w2_map _ rfl p r y
theorem w2_highs (p : Rows2) (r y : Nat) : w2 (highs p) r y = (at2 p r y).2 := w2_map _ rfl p r y
/-- A state of truths, with its least or greatest weather, is true. -/
theorem fits_low {b : Book} {s : Sack} (hB : BookB b) (hS : SackB s) {y : State} (h : y ∈ truthsOf b s) : FitsP b s ⟨lows y.wea, y.org⟩ ∧ FitsP b s ⟨highs y.wea, y.org⟩ := by
 obtain ⟨h1, h2, _⟩ := truth_facts hB hS h
 exact ⟨(fits_truth hB hS h2).2 ⟨y, h, rfl, win_lows (shape_state h1) (truth_solid hB h)⟩, (fits_truth hB hS h2).2 ⟨y, h, rfl, win_highs (shape_state h1) (truth_solid hB h)⟩⟩
/-! ### What is known, by truths -/
theorem poss_of {b : Book} {s : Sack} (hB : BookB b) (hS : SackB s) {x : Truth} (h : FitsP b s x) : possB b s = true := by
 obtain ⟨y, hy, _⟩ := (fits_truth hB hS h.1).1 h
 unfold possB
 cases ht : truthsOf b s with
 | nil => rw [ht] at hy; simp at hy
 | cons => rfl
theorem poss_truth {b : Book} {s : Sack} (h : possB b s = true) : ∃ y, y ∈ truthsOf b s := by
 unfold possB at h
 cases ht : truthsOf b s with
 | nil => rw [ht] at h; simp at h
 | cons y _ => exact ⟨y, by simp⟩
theorem could_of {b : Book} {s : Sack} (hB : BookB b) (hS : SackB s) {x : Truth} (h : FitsP b s x) {i : Nat} {o : Org} (ho : x.org[i]? = some o) : o ∈ couldOf b s i := by
 obtain ⟨y, hy, hyo, _⟩ := (fits_truth hB hS h.1).1 h
 unfold couldOf
 rw [List.mem_filter, List.any_eq_true]
 refine ⟨(h.2.2 i o ho).1, y, hy, ?_⟩
 unfold orgAt
 rw [hyo, List.getD_eq_getElem?_getD, ho]; simp
theorem could_truth {b : Book} {s : Sack} (hB : BookB b) (hS : SackB s) {i : Nat} (hi : i < s.shells.length) {o : Org} (h : o ∈ couldOf b s i) : ∃ x : Truth, FitsP b s x ∧ x.org[i]? = some o := by
 unfold couldOf at h
 rw [List.mem_filter, List.any_eq_true] at h
 obtain ⟨_, y, hy, he⟩ := h
 have hl := (truth_facts hB hS hy).2.1
 refine ⟨_, (fits_low hB hS hy).1, ?_⟩
 show y.org[i]? = some o
 unfold orgAt at he
 rw [List.getD_eq_getElem?_getD, List.getElem?_eq_getElem (by omega)] at he
 rw [List.getElem?_eq_getElem (by omega)]
 simpa using he
/-- A shell by itself. -/
theorem fits_one {b : Book} {s : Sack} {x : Truth} (h : FitsP b s x) {i : Nat} {o : Org} (ho : x.org[i]? = some o) : FitsP b (oneOf (shellAt s i)) ⟨x.wea, [o]⟩ := by
 obtain ⟨h1, h2, h3⟩ := h
 refine ⟨rfl, h2, fun j o' hj => ?_⟩
 cases j with
 | zero =>
  have : o = o' := by simpa using hj
  subst this
  obtain ⟨g1, g2, g3⟩ := h3 i o ho
  exact ⟨g1, by simp [testedB, oneOf], g3⟩
 | succ j => simp at hj
theorem sackB_one' {s : Shell} (h : ShellB s) : SackB (oneOf s) :=
 ⟨by simp [oneOf], by simp [oneOf], by simp [oneOf], fun x hx => by simp [oneOf] at hx; subst hx; exact h, fun t ht => by simp [oneOf] at ht⟩
theorem shell_mem {s : Sack} {i : Nat} (hi : i < s.shells.length) : shellAt s i ∈ s.shells := getD_mem hi
theorem could_sub {b : Book} {s : Sack} (hB : BookB b) (hS : SackB s) {i : Nat} (hi : i < s.shells.length) {o : Org} (h : o ∈ couldOf b s i) : o ∈ couldOf b (oneOf (shellAt s i)) 0 := by
 obtain ⟨x, hx, ho⟩ := could_truth hB hS hi h
 exact could_of hB (sackB_one' (hS.shell _ (shell_mem hi))) (fits_one hx ho) rfl
/-! ### Weather -/
theorem at2_hulls {p x : Rows2} {b : Book} (hp : Shape b p) (hx : Shape b x) {r y : Nat} (hr : r < b.rivers.length) (hy : (y : Int) < b.years) : at2 (hulls p x) r y = hull (at2 p r y) (at2 x r y) := by
 have h1 : r < p.length := by rw [hp.1]; exact hr
 have h2 : r < x.length := by rw [hx.1]; exact hr
 have h3 := hp.2 _ (List.getElem_mem h1)
 have h4 := hx.2 _ (List.getElem_mem h2)
 unfold at2
 simp only [List.getD_eq_getElem?_getD]
 unfold hulls
 rw [List.getElem?_zipWith, List.getElem?_eq_getElem h1, List.getElem?_eq_getElem h2]
 simp only [Option.getD_some]
 rw [List.getElem?_zipWith, List.getElem?_eq_getElem (by omega), List.getElem?_eq_getElem (by omega)]
 rfl
theorem weaTo_spec {b : Book} {s : Sack} (hB : BookB b) (hS : SackB s) {r y : Nat} (hr : r < b.rivers.length) (hy : (y : Int) < b.years) : ∀ k, k < (truthsOf b s).length →
  (∀ z, z ∈ (truthsOf b s).take (k + 1) → (at2 (weaTo b s (k + 1)) r y).1 ≤ (at2 z.wea r y).1 ∧ (at2 z.wea r y).2 ≤ (at2 (weaTo b s (k + 1)) r y).2) ∧
  (∃ z, z ∈ truthsOf b s ∧ (at2 (weaTo b s (k + 1)) r y).1 = (at2 z.wea r y).1) ∧ (∃ z, z ∈ truthsOf b s ∧ (at2 (weaTo b s (k + 1)) r y).2 = (at2 z.wea r y).2)
 | 0, h => by
  have hx := List.getElem?_eq_getElem h
  rw [weaTo_succ hx]
  unfold weaPre; rw [if_pos rfl, hulls_self]
  refine ⟨fun z hz => ?_, ⟨_, List.getElem_mem h, rfl⟩, ⟨_, List.getElem_mem h, rfl⟩⟩
  rw [List.take_add_one, hx] at hz
  simp at hz
  subst hz; omega
 | k + 1, h => by
  have hx := List.getElem?_eq_getElem h
  obtain ⟨h1, ⟨z1, m1, e1⟩, ⟨z2, m2, e2⟩⟩ := weaTo_spec hB hS hr hy k (by omega)
  have hm := List.getElem_mem h
  have s1 := shape_to hB hS k (by omega)
  have s2 := shape_truth hB hS hm
  rw [weaTo_succ hx]
  unfold weaPre; rw [if_neg (by omega), at2_hulls s1 s2 hr hy]
  unfold hull; simp only
  refine ⟨fun z hz => ?_, ?_, ?_⟩
  ·rw [List.take_add_one, hx] at hz
   rcases List.mem_append.1 hz with hz | hz
   ·have := h1 z hz; omega
   ·simp at hz; subst hz; omega
  ·by_cases c : (at2 (weaTo b s (k + 1)) r y).1 ≤ (at2 ((truthsOf b s)[k + 1]).wea r y).1
   ·exact ⟨z1, m1, by omega⟩
   ·exact ⟨_, hm, by omega⟩
  ·by_cases c : (at2 ((truthsOf b s)[k + 1]).wea r y).2 ≤ (at2 (weaTo b s (k + 1)) r y).2
   ·exact ⟨z2, m2, by omega⟩
   ·exact ⟨_, hm, by omega⟩
theorem wea_spec {b : Book} {s : Sack} (hB : BookB b) (hS : SackB s) (hp : possB b s = true) {r y : Nat} (hr : r < b.rivers.length) (hy : (y : Int) < b.years) :
  (∀ x, FitsP b s x → (at2 (weatherOf b s) r y).1 ≤ w2 x.wea r y ∧ w2 x.wea r y ≤ (at2 (weatherOf b s) r y).2) ∧
  (∃ x, FitsP b s x ∧ (at2 (weatherOf b s) r y).1 = w2 x.wea r y) ∧ (∃ x, FitsP b s x ∧ (at2 (weatherOf b s) r y).2 = w2 x.wea r y) := by
 obtain ⟨y0, hy0⟩ := poss_truth hp
 have hpos : 0 < (truthsOf b s).length := List.length_pos_of_mem hy0
 have key := weaTo_spec hB hS hr hy ((truthsOf b s).length - 1) (by omega)
 rw [show (truthsOf b s).length - 1 + 1 = (truthsOf b s).length by omega, weaTo_all, List.take_length] at key
 obtain ⟨h1, ⟨z1, m1, e1⟩, ⟨z2, m2, e2⟩⟩ := key
 refine ⟨fun x hx => ?_, ⟨_, (fits_low hB hS m1).1, by rw [e1, w2_lows]⟩, ⟨_, (fits_low hB hS m2).2, by rw [e2, w2_highs]⟩⟩
 obtain ⟨z, hz, _, hw⟩ := (fits_truth hB hS hx.1).1 hx
 have := h1 z hz
 have := hw r y hr hy
 omega
theorem shape_weather {b : Book} {s : Sack} (hB : BookB b) (hS : SackB s) (hp : possB b s = true) : Shape b (weatherOf b s) := by
 obtain ⟨y0, hy0⟩ := poss_truth hp
 have hpos : 0 < (truthsOf b s).length := List.length_pos_of_mem hy0
 have := shape_to hB hS ((truthsOf b s).length - 1) (by omega)
 rwa [show (truthsOf b s).length - 1 + 1 = (truthsOf b s).length by omega, weaTo_all] at this
theorem at2_begin {b : Book} {r y : Nat} (hr : r < b.rivers.length) : at2 (beginB b).wea r y = growOf b r y := by
 unfold at2 growOf; rw [begin_at hr]; rfl
/-- The weather that is known lies within what the book says. -/
theorem wea_grow {b : Book} {s : Sack} (hB : BookB b) (hS : SackB s) (hp : possB b s = true) {r y : Nat} (hr : r < b.rivers.length) (hy : (y : Int) < b.years) : (growOf b r y).1 ≤ (at2 (weatherOf b s) r y).1 ∧ (at2 (weatherOf b s) r y).2 ≤ (growOf b r y).2 := by
 obtain ⟨_, ⟨x1, h1, e1⟩, ⟨x2, h2, e2⟩⟩ := wea_spec hB hS hp hr hy
 have g1 := h1.2.1 r y hr hy
 have g2 := h2.2.1 r y hr hy
 rw [at2_begin hr] at g1 g2
 omega
/-! ### Patterns -/
theorem patTo_bit (b : Book) (x : State) : ∀ (k i : Nat), (patTo b x k).testBit i = (decide (i < k) && closedB b (orgAt x i))
 | 0, i => by simp [patTo]
 | k + 1, i => by
  unfold patTo
  by_cases hc : closedB b (orgAt x k) = true
  ·rw [if_pos hc, ← patTo_or, Nat.testBit_or, patTo_bit b x k i, Nat.testBit_two_pow]
   by_cases e : k = i
   ·subst e; simp [hc]
   ·have h1 : decide (k = i) = false := by simpa using e
    rw [h1, Bool.or_false]
    by_cases h : i < k
    ·simp [h, Nat.lt_succ_of_lt h]
    ·have : ¬ i < k + 1 := by omega
     simp [h, this]
  ·rw [if_neg hc, Nat.add_zero, patTo_bit b x k i]
   by_cases e : k = i
   ·subst e; simp [hc]
   ·by_cases h : i < k
    ·simp [h, Nat.lt_succ_of_lt h]
    ·have : ¬ i < k + 1 := by omega
     simp [h, this]
theorem pattern_bit (b : Book) (x : State) (i : Nat) : (patternOf b x).testBit i = (decide (i < x.org.length) && closedB b (orgAt x i)) := by rw [patternOf_eq, patTo_bit]
/-- The pattern of origins. -/
def patO (b : Book) (os : List Org) : Nat := patternOf b ⟨os, []⟩
theorem patO_eq (b : Book) (x : State) : patternOf b x = patO b x.org := rfl
theorem patO_bit (b : Book) (os : List Org) {i : Nat} {o : Org} (h : os[i]? = some o) : (patO b os).testBit i = closedB b o := by
 unfold patO
 rw [pattern_bit]
 have hi := (List.getElem?_eq_some_iff.1 h).1
 unfold orgAt
 simp only
 rw [List.getD_eq_getElem?_getD, h]
 simp [hi]
theorem patO_lt (b : Book) (os : List Org) : patO b os < 2 ^ os.length := by
 unfold patO; rw [patternOf_eq]; exact patTo_lt b _ _
/-- How many origins are closed. -/
def closedN (b : Book) (os : List Org) : Nat := os.countP (closedB b)
theorem manyTo_pat (b : Book) (os : List Org) : ∀ k, k ≤ os.length → ((List.range k).filter (hasB (patO b os))).length = (os.take k).countP (closedB b)
 | 0, _ => by simp
 | k + 1, h => by
  have hk : k < os.length := by omega
  rw [List.range_succ, List.filter_append, List.length_append, manyTo_pat b os k (by omega), List.take_add_one, List.getElem?_eq_getElem hk, List.countP_append]
  have : hasB (patO b os) k = closedB b os[k] := patO_bit b os (List.getElem?_eq_getElem hk)
  simp only [List.filter_cons, List.filter_nil, this, Option.toList_some, List.countP_cons, List.countP_nil]
  cases closedB b os[k] <;> simp
theorem manyB_pat (b : Book) (os : List Org) (h : os.length ≤ 4) : manyB (patO b os) = closedN b os := by
 have h1 := manyTo_pat b os os.length (Nat.le_refl _)
 rw [List.take_length] at h1
 unfold manyB closedN
 rw [← h1]
 have hz : ∀ i, os.length ≤ i → hasB (patO b os) i = false := fun i hi => by
  unfold hasB
  exact Nat.testBit_lt_two_pow (Nat.lt_of_lt_of_le (patO_lt b os) (Nat.pow_le_pow_right (by decide) hi))
 have key : ∀ n, os.length ≤ n → ((List.range n).filter (hasB (patO b os))).length = ((List.range os.length).filter (hasB (patO b os))).length := by
  intro n
  induction n with
  | zero => intro h; rw [Nat.le_zero.1 h]
  | succ n ih =>
   intro h
   by_cases e : os.length = n + 1
   ·rw [e]
   ·rw [List.range_succ, List.filter_append, List.length_append, ih (by omega)]
    simp [hz n (by omega)]
 exact key 4 h
theorem pats_of {b : Book} {s : Sack} (hB : BookB b) (hS : SackB s) {x : Truth} (h : FitsP b s x) : patO b x.org ∈ patternsOf b s := by
 obtain ⟨y, hy, hyo, _⟩ := (fits_truth hB hS h.1).1 h
 unfold patternsOf
 rw [List.mem_filter, List.any_eq_true]
 have hn := hS.n2
 refine ⟨List.mem_range.2 (Nat.lt_of_lt_of_le (patO_lt b x.org) (Nat.le_trans (Nat.pow_le_pow_right (by decide) (by rw [h.1]; omega : x.org.length ≤ 4)) (by decide))), y, hy, ?_⟩
 rw [patO_eq, hyo]; simp
theorem pats_truth {b : Book} {s : Sack} (hB : BookB b) (hS : SackB s) {p : Nat} (h : p ∈ patternsOf b s) : ∃ x, FitsP b s x ∧ patO b x.org = p := by
 unfold patternsOf at h
 rw [List.mem_filter, List.any_eq_true] at h
 obtain ⟨_, y, hy, he⟩ := h
 exact ⟨_, (fits_low hB hS hy).1, by rw [patO_eq] at he; simpa using he⟩
/-! ### How many shells are of closed years -/
theorem foldHull (f : Nat → Int) : ∀ (l : List Nat) (o : Int × Int),
  (l.foldl (fun o p => (min o.1 (f p), max o.2 (f p))) o).1 ≤ o.1 ∧ o.2 ≤ (l.foldl (fun o p => (min o.1 (f p), max o.2 (f p))) o).2 ∧
  (∀ p, p ∈ l → (l.foldl (fun o p => (min o.1 (f p), max o.2 (f p))) o).1 ≤ f p ∧ f p ≤ (l.foldl (fun o p => (min o.1 (f p), max o.2 (f p))) o).2) ∧
  ((l.foldl (fun o p => (min o.1 (f p), max o.2 (f p))) o).1 = o.1 ∨ ∃ p, p ∈ l ∧ (l.foldl (fun o p => (min o.1 (f p), max o.2 (f p))) o).1 = f p) ∧
  ((l.foldl (fun o p => (min o.1 (f p), max o.2 (f p))) o).2 = o.2 ∨ ∃ p, p ∈ l ∧ (l.foldl (fun o p => (min o.1 (f p), max o.2 (f p))) o).2 = f p)
 | [], o => by simp
 | p :: l, o => by
  obtain ⟨h1, h2, h3, h4, h5⟩ := foldHull f l (min o.1 (f p), max o.2 (f p))
  rw [List.foldl_cons]
  generalize l.foldl (fun o p => (min o.1 (f p), max o.2 (f p))) (min o.1 (f p), max o.2 (f p)) = z at *
  simp only at h1 h2 h4 h5
  have g1 : z.1 ≤ o.1 := by clear h4 h5; omega
  have g2 : o.2 ≤ z.2 := by clear h4 h5; omega
  have g3 : z.1 ≤ f p := by clear h4 h5; omega
  have g4 : f p ≤ z.2 := by clear h4 h5; omega
  refine ⟨g1, g2, fun q hq => ?_, ?_, ?_⟩
  ·rcases List.mem_cons.1 hq with rfl | hq
   ·exact ⟨g3, g4⟩
   ·exact h3 q hq
  ·clear h5
   rcases h4 with h | ⟨q, hq, h⟩
   ·by_cases c : o.1 ≤ f p
    ·left; omega
    ·exact .inr ⟨p, by simp, by omega⟩
   ·exact .inr ⟨q, by simp [hq], h⟩
  ·clear h4
   rcases h5 with h | ⟨q, hq, h⟩
   ·by_cases c : f p ≤ o.2
    ·left; omega
    ·exact .inr ⟨p, by simp, by omega⟩
   ·exact .inr ⟨q, by simp [hq], h⟩
theorem closedOf_spec {b : Book} {s : Sack} : (∀ p, p ∈ patternsOf b s → (closedOf b s).1 ≤ (manyB p : Int) ∧ (manyB p : Int) ≤ (closedOf b s).2) ∧
  ((closedOf b s).1 = s.shells.length ∨ ∃ p, p ∈ patternsOf b s ∧ (closedOf b s).1 = manyB p) ∧ ((closedOf b s).2 = 0 ∨ ∃ p, p ∈ patternsOf b s ∧ (closedOf b s).2 = manyB p) := by
 obtain ⟨_, _, h3, h4, h5⟩ := foldHull (fun p => (manyB p : Int)) (patternsOf b s) ((s.shells.length : Int), 0)
 exact ⟨h3, h4, h5⟩
theorem closed_of {b : Book} {s : Sack} (hB : BookB b) (hS : SackB s) {x : Truth} (h : FitsP b s x) : (closedOf b s).1 ≤ closedN b x.org ∧ (closedN b x.org : Int) ≤ (closedOf b s).2 := by
 have := closedOf_spec.1 _ (pats_of hB hS h)
 rwa [manyB_pat b x.org (by rw [h.1]; exact hS.n2)] at this
/-- If it is known, the bounds say so. -/
theorem closed_known {b : Book} {s : Sack} (hB : BookB b) (hS : SackB s) {least : Int} (hp : possB b s = true) (hk : knownB least (patternsOf b s) = true) : least ≤ (closedOf b s).1 ∨ (closedOf b s).2 < least := by
 obtain ⟨h3, h4, h5⟩ := @closedOf_spec b s
 obtain ⟨y, hy⟩ := poss_truth hp
 obtain ⟨p0, hm⟩ : ∃ p0, p0 ∈ patternsOf b s := ⟨_, pats_of hB hS (fits_low hB hS hy).1⟩
 have hle : ∀ p, p ∈ patternsOf b s → (manyB p : Int) ≤ s.shells.length := fun p hp => by
  obtain ⟨x, hx, rfl⟩ := pats_truth hB hS hp
  rw [manyB_pat b x.org (by rw [hx.1]; exact hS.n2)]
  have := List.countP_le_length (p := closedB b) (l := x.org)
  rw [hx.1] at this
  unfold closedN; omega
 unfold knownB at hk
 rw [Bool.or_eq_true, Bool.not_eq_true', Bool.not_eq_true', List.any_eq_false, List.any_eq_false] at hk
 rcases hk with hk | hk
 ·right
  rcases h5 with h | ⟨p, hp, h⟩
  ·have h6 := h3 _ hm
   have h7 := hk _ hm
   simp only [decide_eq_true_eq] at h7
   omega
  ·have := hk p hp; simp only [decide_eq_true_eq] at this; omega
 ·left
  rcases h4 with h | ⟨p, hp, h⟩
  ·have h6 := hle _ hm
   have h7 := hk _ hm
   simp only [decide_eq_true_eq] at h7
   omega
  ·have := hk p hp; simp only [decide_eq_true_eq] at this; omega
/-! ### One shell more, one test more -/
def addT (s : Sack) (ts : List (Int × Bool)) : Sack := ⟨s.shells, s.tests ++ ts⟩
def addS (s : Sack) (xs : List Shell) : Sack := ⟨s.shells ++ xs, s.tests⟩
theorem tested_app (b : Book) (t1 t2 : List (Int × Bool)) (i : Nat) (o : Org) : testedB b (t1 ++ t2) i o = (testedB b t1 i o && testedB b t2 i o) := by
 unfold testedB; rw [List.any_append, Bool.not_or]
theorem fits_addT {b : Book} {s : Sack} {ts : List (Int × Bool)} {x : Truth} : FitsP b (addT s ts) x ↔ FitsP b s x ∧ ∀ j o, x.org[j]? = some o → testedB b ts j o = true := by
 unfold FitsP OkAt addT shellAt
 simp only [tested_app, Bool.and_eq_true]
 constructor
 ·rintro ⟨h1, h2, h3⟩
  exact ⟨⟨h1, h2, fun j o h => ⟨(h3 j o h).1, (h3 j o h).2.1.1, (h3 j o h).2.2⟩⟩, fun j o h => (h3 j o h).2.1.2⟩
 ·rintro ⟨⟨h1, h2, h3⟩, h4⟩
  exact ⟨h1, h2, fun j o h => ⟨(h3 j o h).1, ⟨(h3 j o h).2.1, h4 j o h⟩, (h3 j o h).2.2⟩⟩
theorem fits_addS {b : Book} {s : Sack} {xs : List Shell} {x : Truth} (h : FitsP b (addS s xs) x) : FitsP b s ⟨x.wea, x.org.take s.shells.length⟩ := by
 obtain ⟨h1, h2, h3⟩ := h
 have hl : s.shells.length ≤ x.org.length := by rw [h1]; simp [addS]
 refine ⟨by simp; omega, h2, fun j o hj => ?_⟩
 have hj' : (x.org.take s.shells.length)[j]? = some o := hj
 have hjl : j < s.shells.length := by have := (List.getElem?_eq_some_iff.1 hj').1; rw [List.length_take] at this; omega
 rw [List.getElem?_take, if_pos hjl] at hj'
 have := h3 j o hj'
 have hsh : shellAt (addS s xs) j = shellAt s j := by
  unfold shellAt addS; simp only; rw [List.getD_eq_getElem?_getD, List.getElem?_append_left hjl, List.getD_eq_getElem?_getD]
 unfold OkAt at *
 rw [hsh] at this
 exact this
/-- A sack with more shells and more tests. -/
structure MoreP (s x : Sack) : Prop where
 sh : ∃ xs, x.shells = s.shells ++ xs
 te : ∃ ts, x.tests = s.tests ++ ts
theorem fits_more {b : Book} {s x : Sack} (h : MoreP s x) {y : Truth} (hy : FitsP b x y) : FitsP b s ⟨y.wea, y.org.take s.shells.length⟩ := by
 obtain ⟨⟨xs, h1⟩, ⟨ts, h2⟩⟩ := h
 have : x = addT (addS s xs) ts := by cases x; unfold addT addS; simp only at h1 h2; rw [h1, h2]
 rw [this] at hy
 exact fits_addS (fits_addT.1 hy).1
theorem more_poss {b : Book} {s x : Sack} (hB : BookB b) (hS : SackB s) (hX : SackB x) (h : MoreP s x) (hp : possB b x = true) : possB b s = true := by
 obtain ⟨y, hy⟩ := poss_truth hp
 exact poss_of hB hS (fits_more h (fits_low hB hX hy).1)
theorem more_could {b : Book} {s x : Sack} (hB : BookB b) (hS : SackB s) (hX : SackB x) (h : MoreP s x) {i : Nat} (hi : i < s.shells.length) {o : Org} (ho : o ∈ couldOf b x i) : o ∈ couldOf b s i := by
 have hi' : i < x.shells.length := by obtain ⟨xs, h1⟩ := h.sh; rw [h1, List.length_append]; omega
 obtain ⟨y, hy, hyo⟩ := could_truth hB hX hi' ho
 refine could_of hB hS (fits_more h hy) ?_
 show (y.org.take s.shells.length)[i]? = some o
 rw [List.getElem?_take, if_pos hi]; exact hyo
theorem more_wea {b : Book} {s x : Sack} (hB : BookB b) (hS : SackB s) (hX : SackB x) (h : MoreP s x) (hp : possB b x = true) {r y : Nat} (hr : r < b.rivers.length) (hy : (y : Int) < b.years) :
  (at2 (weatherOf b s) r y).1 ≤ (at2 (weatherOf b x) r y).1 ∧ (at2 (weatherOf b x) r y).2 ≤ (at2 (weatherOf b s) r y).2 := by
 obtain ⟨h1, _, _⟩ := wea_spec hB hS (more_poss hB hS hX h hp) hr hy
 obtain ⟨_, ⟨x1, g1, e1⟩, ⟨x2, g2, e2⟩⟩ := wea_spec hB hX hp hr hy
 have k1 := h1 _ (fits_more h g1)
 have k2 := h1 _ (fits_more h g2)
 simp only at k1 k2
 omega
/-! ### A test, and what it says -/
theorem test_one (b : Book) (t : Int) (c : Bool) (i : Nat) (o : Org) : testedB b [(t, c)] i o = true ↔ (t = (i : Int) → c = closedB b o) := by
 unfold testedB
 simp only [List.any_cons, List.any_nil, Bool.or_false, Bool.not_eq_true', Bool.and_eq_false_iff, decide_eq_false_iff_not, bne_eq_false_iff_eq]
 constructor
 ·rintro (h | h) e
  ·exact absurd e h
  ·exact h
 ·intro h
  by_cases e : t = (i : Int)
  ·exact .inr (h e)
  ·exact .inl e
theorem fits_test {b : Book} {s : Sack} {t : Nat} {c : Bool} (ht : t < s.shells.length) {x : Truth} : FitsP b (addT s [((t : Int), c)]) x ↔ FitsP b s x ∧ (patO b x.org).testBit t = c := by
 rw [fits_addT]
 constructor
 ·rintro ⟨h1, h2⟩
  refine ⟨h1, ?_⟩
  have htl : t < x.org.length := by rw [h1.1]; exact ht
  have hx := List.getElem?_eq_getElem htl
  rw [patO_bit b x.org hx]
  exact ((test_one b t c t _).1 (h2 t _ hx) rfl).symm
 ·rintro ⟨h1, h2⟩
  refine ⟨h1, fun j o hj => (test_one b t c j o).2 fun e => ?_⟩
  have : t = j := by omega
  subst this
  rw [← h2, patO_bit b x.org hj]
theorem sackB_addT {s : Sack} (hS : SackB s) {t : Nat} {c : Bool} (ht : t < s.shells.length) (h6 : s.tests.length < 6) : SackB (addT s [((t : Int), c)]) :=
 ⟨hS.n1, hS.n2, by unfold addT; simp; omega, hS.shell, fun q hq => by
  unfold addT at hq ⊢
  simp only [List.mem_append, List.mem_singleton] at hq
  rcases hq with hq | rfl
  ·exact hS.test q hq
  ·simp only; omega⟩
theorem pats_test {b : Book} {s : Sack} (hB : BookB b) (hS : SackB s) {t : Nat} {c : Bool} (ht : t < s.shells.length) (h6 : s.tests.length < 6) : patternsOf b (addT s [((t : Int), c)]) = (patternsOf b s).filter fun p => hasB p t == c := by
 have hX := sackB_addT (c := c) hS ht h6
 have key : ∀ p, (truthsOf b (addT s [((t : Int), c)])).any (fun x => patternOf b x == p) = ((truthsOf b s).any (fun x => patternOf b x == p) && (hasB p t == c)) := by
  intro p
  rw [Bool.eq_iff_iff, Bool.and_eq_true, List.any_eq_true, List.any_eq_true]
  constructor
  ·rintro ⟨y, hy, he⟩
   have hy1 := (fits_low hB hX hy).1
   rw [fits_test ht] at hy1
   obtain ⟨z, hz, hzo, _⟩ := (fits_truth hB hS hy1.1.1).1 hy1.1
   have he' : patternOf b y = p := by simpa using he
   refine ⟨⟨z, hz, ?_⟩, ?_⟩
   ·rw [patO_eq, hzo]; exact he
   ·rw [← he']; unfold hasB; rw [patO_eq]; exact beq_iff_eq.2 hy1.2
  ·rintro ⟨⟨y, hy, he⟩, hc⟩
   have hy1 := (fits_low hB hS hy).1
   have he' : patternOf b y = p := by simpa using he
   have h2 : FitsP b (addT s [((t : Int), c)]) ⟨lows y.wea, y.org⟩ := (fits_test ht).2 ⟨hy1, by rw [← he', patO_eq] at hc; exact beq_iff_eq.1 hc⟩
   obtain ⟨z, hz, hzo, _⟩ := (fits_truth hB hX h2.1).1 h2
   exact ⟨z, hz, by rw [patO_eq, hzo]; exact he⟩
 unfold patternsOf
 rw [List.filter_filter]
 refine List.filter_congr fun p _ => ?_
 rw [key p, Bool.and_comm]
/-! ### What Fits answers -/
theorem isOrg_iff {b : Book} (hB : BookB b) {n : Nat} (n1 : 1 ≤ n) {o : Org} : isOrgB b n o = true ↔ o ∈ originsOf b n := by
 unfold isOrgB
 rw [Bool.and_eq_true, inB_iff, inB_iff]
 constructor
 ·rintro ⟨⟨h1, h2⟩, h3, h4⟩
  have := hB.y1
  unfold originsOf
  simp only [List.mem_flatMap, List.mem_map, List.mem_range]
  refine ⟨o.1.toNat, by omega, o.2.toNat - (n - 1), by omega, ?_⟩
  ext
  ·simp only; omega
  ·simp only; omega
 ·intro h
  obtain ⟨r, y, rfl, h1, h2, h3⟩ := originsOf_mem hB n1 h
  simp only; omega
theorem grow_len {b : Book} (hB : BookB b) {r : Nat} (hr : r < b.rivers.length) : ((riverOf b (r : Int)).grow.length : Int) = b.years := by
 refine hB.len _ ?_
 unfold riverOf
 simp only [Int.toNat_natCast]
 exact getD_mem hr
theorem win_begin {b : Book} (hB : BookB b) (W : List (List Int)) : Win b (beginB b).wea W ↔ (List.range b.rivers.length).all (weaOk b W) = true := by
 rw [List.all_eq_true]
 constructor
 ·intro h r hr
  have hr' := List.mem_range.1 hr
  unfold weaOk
  rw [List.all_eq_true]
  intro y hy
  have hy' := List.mem_range.1 hy
  have hl := grow_len hB hr'
  rw [inB_iff, ← at2_begin hr']
  exact h r y hr' (by omega)
 ·intro h r y hr hy
  have h1 := h r (List.mem_range.2 hr)
  unfold weaOk at h1
  rw [List.all_eq_true] at h1
  have hl := grow_len hB hr
  have := h1 y (List.mem_range.2 (by omega))
  rw [inB_iff, ← at2_begin hr] at this
  exact this
theorem asks_iff {b : Book} {s : Shell} {o : Org} {W : List (List Int)} : ((List.range s.rings.length).all fun k => ringIn b s o W k) = true ↔ Asks b s o W := by
 rw [List.all_eq_true]
 unfold Asks Agree ringIn
 constructor
 ·intro h i hi
  have := h i (List.mem_range.2 hi)
  rwa [inB_iff] at this
 ·intro h i hi
  rw [inB_iff]
  exact h i (List.mem_range.1 hi)
theorem orgOk_iff {b : Book} {s : Sack} (hB : BookB b) (hS : SackB s) {W : List (List Int)} {i : Nat} (hi : i < s.shells.length) {o : Org} : orgOk b s W i o = true ↔ OkAt b s W i o := by
 unfold orgOk OkAt
 rw [Bool.and_eq_true, Bool.and_eq_true, asks_iff, isOrg_iff hB (hS.shell _ (shell_mem hi)).n1]
 exact ⟨fun h => ⟨h.1.1, h.1.2, h.2⟩, fun h => ⟨⟨h.1, h.2.1⟩, h.2.2⟩⟩
theorem fitsB_iff {b : Book} {s : Sack} (hB : BookB b) (hS : SackB s) {x : Truth} (hx : x.org.length = s.shells.length) : fitsB b s x = true ↔ FitsP b s x := by
 unfold fitsB orgAll FitsP
 rw [Bool.and_eq_true, ← win_begin hB, List.all_eq_true]
 constructor
 ·rintro ⟨h1, h2⟩
  refine ⟨hx, h1, fun j o hj => ?_⟩
  have hjl := (List.getElem?_eq_some_iff.1 hj).1
  have := h2 j (List.mem_range.2 (by omega))
  rw [List.getD_eq_getElem?_getD, hj] at this
  exact (orgOk_iff hB hS (by omega)).1 this
 ·rintro ⟨_, h1, h2⟩
  refine ⟨h1, fun j hj => ?_⟩
  have hj' := List.mem_range.1 hj
  rw [orgOk_iff hB hS hj']
  refine h2 j _ ?_
  rw [List.getD_eq_getElem?_getD, List.getElem?_eq_getElem (by omega)]; rfl
end Go.Proofs.YtnhpibnneidmgaaGreatDoor
