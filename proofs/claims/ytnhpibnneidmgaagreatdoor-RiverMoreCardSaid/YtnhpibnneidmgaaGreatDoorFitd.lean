/- What Fits answers: definitions. -/
import Derived.Test.YtnhpibnneidmgaaGreatDoorReft
import Derived.Test.YtnhpibnneidmgaaGreatDoorTrutha
namespace Go.Proofs.YtnhpibnneidmgaaGreatDoor
def w2 (W : List (List Int)) (r y : Nat) : Int := (W.getD r []).getD y 0
def weaOk (b : Book) (W : List (List Int)) (r : Nat) : Bool := (List.range (riverOf b (r : Int)).grow.length).all fun y => inB (w2 W r y) (growOf b (r : Int) (y : Int)).1 (growOf b (r : Int) (y : Int)).2
def isOrgB (b : Book) (n : Nat) (o : Org) : Bool := inB o.1 0 (b.rivers.length - 1) && inB o.2 (n - 1) (b.years - 1)
def ringIn (b : Book) (s : Shell) (o : Org) (W : List (List Int)) (k : Nat) : Bool :=
 inB (s.rings.getD k 0 - w2 W o.1.toNat (firstY o s + k)) (-((riverOf b o.1).vary + s.off)) ((riverOf b o.1).vary + s.off)
def orgOk (b : Book) (s : Sack) (W : List (List Int)) (i : Nat) (o : Org) : Bool :=
 isOrgB b (shellAt s i).rings.length o && testedB b s.tests i o && (List.range (shellAt s i).rings.length).all fun k => ringIn b (shellAt s i) o W k
def orgAll (b : Book) (s : Sack) (x : Truth) (n : Nat) : Bool := (List.range n).all fun i => orgOk b s x.wea i (x.org.getD i (0, 0))
def fitsB (b : Book) (s : Sack) (x : Truth) : Bool := (List.range b.rivers.length).all (weaOk b x.wea) && orgAll b s x s.shells.length
def inSpan (ns : List Int) (gs : List (Int × Int)) (y : Nat) : Bool := inB (ns.getD y 0) (gs.getD y (0, 0)).1 (gs.getD y (0, 0)).2
theorem inSpan_at {ns : List Int} {gs : List (Int × Int)} {y : Nat} {n : Int} {g : Int × Int} (h : ns[y]? = some n) (k : gs[y]? = some g) : inSpan ns gs y = inB n g.1 g.2 := by
 unfold inSpan; rw [List.getD_eq_getElem?_getD, List.getD_eq_getElem?_getD, h, k]; rfl
theorem all_step {f : Nat → Bool} {k : Nat} (h : (List.range k).all f = true) (hk : f k = true) : (List.range (k + 1)).all f = true := by
 rw [List.range_succ, List.all_append, h]; simp [hk]
theorem all_not {f : Nat → Bool} {k n : Nat} (hk : k < n) (h : f k = false) : (List.range n).all f = false := by
 rw [Bool.eq_false_iff, ne_eq, List.all_eq_true]; intro H; rw [H k (List.mem_range.2 hk)] at h; cases h
theorem weaOk_in {b : Book} {W : List (List Int)} {r : Nat} {R : River} {l : List Int} (hr : b.rivers[r]? = some R) (hl : W[r]? = some l) : weaOk b W r = (List.range R.grow.length).all (inSpan l R.grow) := by
 have h1 : riverOf b (r : Int) = R := by unfold riverOf; simp only [Int.toNat_natCast]; rw [List.getD_eq_getElem?_getD, hr]; rfl
 unfold weaOk inSpan w2 growOf
 rw [h1]
 show ((List.range R.grow.length).all fun y => inB _ (R.grow.getD y (0, 0)).1 (R.grow.getD y (0, 0)).2) = _
 rw [show W.getD r [] = l by rw [List.getD_eq_getElem?_getD, hl]; rfl]
theorem fits_no_wea {b : Book} {s : Sack} {x : Truth} {r : Nat} (hr : r < b.rivers.length) (h : weaOk b x.wea r = false) : fitsB b s x = false := by unfold fitsB; rw [all_not hr h]; rfl
theorem fits_no_org {b : Book} {s : Sack} {x : Truth} {i : Nat} {o : Org} (hi : i < s.shells.length) (ho : x.org[i]? = some o) (h : orgOk b s x.wea i o = false) : fitsB b s x = false := by
 unfold fitsB orgAll
 rw [all_not (f := fun i => orgOk b s x.wea i (x.org.getD i (0, 0))) hi (by show orgOk b s x.wea i (x.org.getD i (0, 0)) = false; rw [List.getD_eq_getElem?_getD, ho]; exact h), Bool.and_false]
theorem orgOk_parts {b : Book} {s : Sack} {W : List (List Int)} {i : Nat} {o : Org} {x : Shell} (hx : s.shells[i]? = some x) : orgOk b s W i o = (inB o.1 0 (b.rivers.length - 1) && inB o.2 (x.rings.length - 1) (b.years - 1) && testedB b s.tests i o && (List.range x.rings.length).all (ringIn b x o W)) := by
 have : shellAt s i = x := by unfold shellAt; rw [List.getD_eq_getElem?_getD, hx]; rfl
 unfold orgOk isOrgB; rw [this]
theorem ringIn_at {b : Book} {x : Shell} {r y : Nat} {W : List (List Int)} {k : Nat} {n z : Int} {R : River} {l : List Int} (hR : b.rivers[r]? = some R) (hl : W[r]? = some l) (hn : x.rings[k]? = some n) (hz : l[y + 1 - x.rings.length + k]? = some z) :
  ringIn b x ((r : Int), (y : Int)) W k = inB (n - z) (-(R.vary + x.off)) (R.vary + x.off) := by
 have h1 : riverOf b (r : Int) = R := by unfold riverOf; simp only [Int.toNat_natCast]; rw [List.getD_eq_getElem?_getD, hR]; rfl
 have h2 : firstY ((r : Int), (y : Int)) x = y + 1 - x.rings.length := by unfold firstY; simp
 unfold ringIn w2
 simp only [Int.toNat_natCast]
 rw [h1, h2, show W.getD r [] = l by rw [List.getD_eq_getElem?_getD, hl]; rfl, List.getD_eq_getElem?_getD, hn, List.getD_eq_getElem?_getD, hz]; rfl
theorem wea_range {b : Book} {W : List (List Int)} {r : Nat} {l : List Int} (hB : BookB b) (h : (List.range b.rivers.length).all (weaOk b W) = true) (hr : r < b.rivers.length) (hl : W[r]? = some l) {i : Nat} {z : Int} (hi : (i : Int) < b.years) (hz : l[i]? = some z) : 0 ≤ z ∧ z ≤ 40 := by
 rw [List.all_eq_true] at h
 have h1 := h r (List.mem_range.2 hr)
 have hR : b.rivers[r]? = some b.rivers[r] := List.getElem?_eq_getElem hr
 rw [weaOk_in hR hl, List.all_eq_true] at h1
 have hm := List.getElem_mem hr
 have hlen := hB.len _ hm
 have hil : i < (b.rivers[r]).grow.length := by omega
 have h2 := h1 i (List.mem_range.2 hil)
 have hg : (b.rivers[r]).grow[i]? = some (b.rivers[r]).grow[i] := List.getElem?_eq_getElem hil
 rw [inSpan_at hz hg, inB_iff] at h2
 have := hB.span _ hm _ (List.getElem_mem hil)
 omega
def originB (b : Book) (o : Org) (n : Int) : Bool := isRiverB b o.1 && isYearB b o.2 && decide (0 ≤ o.2 - n + 1)
theorem originB_eq {b : Book} {o : Org} {n : Nat} (h : 1 ≤ n) : originB b o n = isOrgB b n o := by
 unfold originB isOrgB isRiverB isYearB
 rw [Bool.eq_iff_iff]
 simp only [Bool.and_eq_true, inB_iff, decide_eq_true_eq]
 constructor
 ·rintro ⟨⟨h1, h2⟩, h3⟩; exact ⟨h1, by omega, h2.2⟩
 ·rintro ⟨h1, h2⟩; exact ⟨⟨h1, by omega, h2.2⟩, by omega⟩
end Go.Proofs.YtnhpibnneidmgaaGreatDoor
