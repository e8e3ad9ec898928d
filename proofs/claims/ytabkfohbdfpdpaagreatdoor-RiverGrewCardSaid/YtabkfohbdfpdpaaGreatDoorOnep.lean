/- A shell by itself: of which origins it can be, ring by ring; a lesser error never has an origin more. -/
import Derived.Test.YtabkfohbdfpdpaaGreatDoorWord
namespace Go.Proofs.YtabkfohbdfpdpaaGreatDoor

def ringOk (g : Int × Int) (n off : Int) : Bool := decide (max g.1 (n - off) ≤ min g.2 (n + off))
theorem ringOk_mono {g : Int × Int} {n o1 o2 : Int} (h : o1 ≤ o2) (hk : ringOk g n o1 = true) : ringOk g n o2 = true := by
  unfold ringOk at *
  rw [decide_eq_true_eq] at *
  omega
def ringsOk (off : Int) (ns : List Int) (p : Nat) (row : List (Int × Int)) : Bool := (List.range ns.length).all fun i => ringOk (row.getD (p + i) (0, 0)) (ns.getD i 0) off
theorem getD_set_ne {α : Type} {l : List α} {i j : Nat} {x d : α} (h : i ≠ j) : (l.set i x).getD j d = l.getD j d := by
  rw [List.getD_eq_getElem?_getD, List.getD_eq_getElem?_getD, List.getElem?_set_ne h]
theorem ringsOk_cons (off : Int) (n : Int) (ns : List Int) (p : Nat) (row : List (Int × Int)) : ringsOk off (n :: ns) p row = (ringOk (row.getD p (0, 0)) n off && ringsOk off ns (p + 1) row) := by
  rw [Bool.eq_iff_iff, Bool.and_eq_true]
  unfold ringsOk
  simp only [List.all_eq_true, List.mem_range, List.length_cons]
  constructor
  · intro h
    refine ⟨by simpa using h 0 (by omega), fun i hi => ?_⟩
    have := h (i + 1) (by omega)
    simpa [Nat.add_assoc, Nat.add_comm 1 i] using this
  · rintro ⟨h1, h2⟩ i hi
    cases i with
    | zero => simpa using h1
    | succ i =>
      have := h2 i (by omega)
      simpa [Nat.add_assoc, Nat.add_comm 1 i] using this
theorem ringsOk_set {off : Int} {ns : List Int} {p q : Nat} {row : List (Int × Int)} {x : Int × Int} (h : q < p) : ringsOk off ns p (row.set q x) = ringsOk off ns p row := by
  unfold ringsOk
  congr 1
  funext i
  rw [getD_set_ne (by omega)]
theorem narrowL_some (off : Int) : ∀ (ns : List Int) (p : Nat) (row : List (Int × Int)), (narrowL off ns p row).isSome = ringsOk off ns p row
  | [], p, row => rfl
  | n :: ns, p, row => by
    rw [ringsOk_cons]
    unfold narrowL
    by_cases h : (meet (row.getD p (0, 0)) n off).2 < (meet (row.getD p (0, 0)) n off).1
    · rw [if_pos h]
      have : ringOk (row.getD p (0, 0)) n off = false := by
        unfold ringOk meet at *
        simp only at h
        rw [decide_eq_false_iff_not]; omega
      rw [this]; rfl
    · rw [if_neg h, narrowL_some off ns (p + 1) _, ringsOk_set (by omega)]
      have : ringOk (row.getD p (0, 0)) n off = true := by
        unfold ringOk meet at *
        simp only at h
        rw [decide_eq_true_eq]; omega
      rw [this]; rfl
def couldOne (b : Book) (s : Shell) (o : Org) : Bool := ringsOk ((riverOf b o.1).vary + s.off) s.rings (firstY o s) (riverOf b o.1).grow
theorem begin_at {b : Book} {r : Nat} (h : r < b.rivers.length) : (beginB b).wea.getD r [] = (riverOf b r).grow := by
  unfold beginB riverOf
  simp only [Int.toNat_natCast]
  rw [List.getD_eq_getElem?_getD, List.getElem?_map, List.getElem?_eq_getElem h, List.getD_eq_getElem?_getD, List.getElem?_eq_getElem h]
  rfl
theorem with_one {b : Book} (hB : BookB b) {s : Shell} (n1 : 1 ≤ s.rings.length) {o : Org} (h : o ∈ originsOf b s.rings.length) : (withB b (beginB b) s o).isSome = couldOne b s o := by
  obtain ⟨r, y, rfl, h1, h2, h3⟩ := originsOf_mem hB n1 h
  unfold withB couldOne
  rw [Option.isSome_map, narrowL_some]
  simp only [Int.toNat_natCast]
  rw [begin_at h1]
theorem truths_one (b : Book) (s : Shell) : truthsOf b (oneOf s) = (originsOf b s.rings.length).flatMap fun o => match withB b (beginB b) s o with | some y => [y] | none => [] := by
  unfold truthsOf
  show truthsFrom b (oneOf s) 1 (beginB b) = _
  unfold truthsFrom
  refine congrArg (fun f => List.flatMap f _) (funext fun o => ?_)
  show (match nextsOf b (oneOf s) (beginB b) o with | some y => truthsFrom b (oneOf s) 0 y | none => []) = _
  have : nextsOf b (oneOf s) (beginB b) o = withB b (beginB b) s o := by
    unfold nextsOf
    rw [if_pos (by simp [testedB, oneOf])]
    rfl
  rw [this]
  cases withB b (beginB b) s o <;> rfl
theorem with_org {b : Book} {s : Shell} {o : Org} {y : State} (h : withB b (beginB b) s o = some y) : orgAt y 0 = o := by
  unfold withB at h
  rw [Option.map_eq_some_iff] at h
  obtain ⟨row, _, rfl⟩ := h
  rfl
theorem couldOf_one {b : Book} (hB : BookB b) {s : Shell} (hS : ShellB s) : couldOf b (oneOf s) 0 = (originsOf b s.rings.length).filter (couldOne b s) := by
  unfold couldOf
  show (originsOf b s.rings.length).filter _ = _
  refine List.filter_congr fun o ho => ?_
  rw [← with_one hB hS.n1 ho, truths_one, Bool.eq_iff_iff, List.any_eq_true]
  constructor
  · rintro ⟨y, hy, he⟩
    rw [List.mem_flatMap] at hy
    obtain ⟨o', ho', hy'⟩ := hy
    cases hw : withB b (beginB b) s o' with
    | none => rw [hw] at hy'; simp at hy'
    | some z =>
      rw [hw] at hy'
      have : y = z := by simpa using hy'
      subst this
      have h1 := with_org hw
      have h2 : orgAt y 0 = o := by simpa using he
      have : o' = o := h1.symm.trans h2
      rw [← this, hw]; rfl
  · intro h
    obtain ⟨y, hy⟩ := Option.isSome_iff_exists.1 h
    exact ⟨y, List.mem_flatMap.2 ⟨o, ho, by rw [hy]; simp⟩, by rw [with_org hy]; simp⟩
theorem could_len {b : Book} (hB : BookB b) {s : Shell} (hS : ShellB s) : (couldOf b (oneOf s) 0).length ≤ 21 := by
  rw [couldOf_one hB hS]
  exact Nat.le_trans (List.length_filter_le _ _) (originsOf_len hB _)

/-! ### A lesser error -/
def lessS (s : Shell) (d : Int) : Shell := ⟨s.rings, s.off - d⟩
theorem lessS_B {s : Shell} (h : ShellB s) {d : Int} (h1 : 0 ≤ d) (h2 : d ≤ s.off) : ShellB (lessS s d) :=
  ⟨h.n1, h.n2, by have := h.off; unfold lessS; simp only []; omega, h.ring⟩
theorem couldOne_less {b : Book} {s : Shell} {d : Int} (h1 : 0 ≤ d) {o : Org} (h : couldOne b (lessS s d) o = true) : couldOne b s o = true := by
  unfold couldOne ringsOk at *
  rw [List.all_eq_true] at *
  intro i hi
  have := h i hi
  exact ringOk_mono (by unfold lessS; simp only []; omega) this
theorem could_less {b : Book} (hB : BookB b) {s : Shell} (hS : ShellB s) {d : Int} (h1 : 0 ≤ d) (h2 : d ≤ s.off) : ∀ o, o ∈ couldOf b (oneOf (lessS s d)) 0 → o ∈ couldOf b (oneOf s) 0 := by
  intro o ho
  rw [couldOf_one hB (lessS_B hS h1 h2)] at ho
  rw [couldOf_one hB hS]
  obtain ⟨h3, h4⟩ := List.mem_filter.1 ho
  exact List.mem_filter.2 ⟨h3, couldOne_less h1 h4⟩
/-- What is surely so of more origins is so of some of them. -/
theorem word_less {b : Book} {l m : List Org} (hm : ∀ o, o ∈ m → o ∈ l) (hne : m ≠ []) : wordOf b l = 2 ∨ wordOf b m = wordOf b l := by
  unfold wordOf
  by_cases h0 : l.countP (closedB b) = 0
  · right
    rw [if_pos h0, if_pos]
    rw [List.countP_eq_zero] at *
    exact fun o ho => h0 o (hm o ho)
  · rw [if_neg h0]
    by_cases h1 : l.countP (closedB b) = l.length
    · right
      have h2 : m.countP (closedB b) = m.length := by
        rw [List.countP_eq_length] at *
        exact fun o ho => h1 o (hm o ho)
      have h3 : 0 < m.length := List.length_pos_iff.2 hne
      rw [if_pos h1, if_neg (by omega), if_pos h2]
    · left; rw [if_neg h1]
theorem word_nil (b : Book) : wordOf b [] = 1 := rfl
end Go.Proofs.YtabkfohbdfpdpaaGreatDoor
