/- Regions that draw their order, walked operation by operation: skipped operations in one step. -/
import Derived.Test.YtapkbonlijhmjaaGreatDoorSearchr
namespace Go.Proofs.YtapkbonlijhmjaaGreatDoor

section
variable {P : Program} {ops : Array Oper} {Q : Exit → Act → World → Prop} {md : Region.Mode} {S : World → Prop}

theorem held_take {i : Nat} {d : Option Tmp} {v : Value} {n : Nat} {l : Array Bool} {a : Act} {w : World} (hd : (ops[i]?).map (fun o => o.dst) = some d)
    (hs : Region.noSelect ops = true) (hf : Region.free md ops l i = true) (hr : (Region.ready md ops l).contains i = true)
    (hQ : ∀ c a w, Q (.panic c) (a.put d v) w → Q (.panic c) a w) (hy : ∀ o, ops[i]? = some o → Region.wanted o (yielded ops a.tmps) = true ∧ ∀ w, S w → (execOp a.eval o).run P w = .ok (.value v) w) (hS : S w)
    (h : wpAnyH P md ops Q S n (l.setIfInBounds i true) (a.put d v) w) : wpAnyH P md ops Q S (n + 1) l a w :=
  held_at hd hs hf hr hQ (fun o ho => Or.inl (hy o ho)) hS h

theorem held_skip {i : Nat} {d : Option Tmp} {n : Nat} {l : Array Bool} {a : Act} {w : World} (hd : (ops[i]?).map (fun o => o.dst) = some d)
    (hw : (ops[i]?).map (fun o => Region.wanted o (yielded ops a.tmps)) = some false)
    (hs : Region.noSelect ops = true) (hf : Region.free md ops l i = true) (hr : (Region.ready md ops l).contains i = true)
    (hQ : ∀ c a w, Q (.panic c) (a.put d undef) w → Q (.panic c) a w) (hS : S w)
    (h : wpAnyH P md ops Q S n (l.setIfInBounds i true) (a.put d undef) w) : wpAnyH P md ops Q S (n + 1) l a w :=
  held_at hd hs hf hr hQ (fun o ho => Or.inr ⟨by rw [ho] at hw; simpa using hw, rfl⟩) hS h

/-- Is this number one that may be skipped now, and does its temporary stand undefined? -/
def skipOne (md : Region.Mode) (ops : Array Oper) (tmps : Array Value) (l : Array Bool) (i : Nat) : Bool :=
  Region.noSelect ops && Region.free md ops l i && (Region.ready md ops l).contains i &&
  match ops[i]? with
  | none => false
  | some o => !Region.wanted o (yielded ops tmps) && match o.dst with
    | none => true
    | some d => match tmps[d]? with
      | some (.tuple x) => x.size == 0
      | _ => false
def skipAll (md : Region.Mode) (ops : Array Oper) (tmps : Array Value) : List Nat → Array Bool → Option (Array Bool)
  | [], l => some l
  | i :: is, l => if skipOne md ops tmps l i then skipAll md ops tmps is (l.setIfInBounds i true) else none
theorem put_same {a : Act} {d : Tmp} {v : Value} (h : a.tmps[d]? = some v) : a.put (some d) v = a := by
  cases a
  simp only [Act.put] at *
  congr 1
  apply Array.ext_getElem?
  intro j
  by_cases e : d = j
  · subst e; rw [h]; simp [(Array.getElem?_eq_some_iff.1 h).1]
  · rw [Array.getElem?_setIfInBounds_ne e]
theorem held_skips {is : List Nat} {k n : Nat} {l l' : Array Bool} {a : Act} {w : World} (h : skipAll md ops a.tmps is l = some l') (hk : is.length = k) (hS : S w)
    (hQ : wpAnyH P md ops Q S n l' a w) (hp : ∀ c (d : Option Tmp) a w, Q (.panic c) (a.put d undef) w → Q (.panic c) a w := by intro c d a w h; cases d <;> exact h) : wpAnyH P md ops Q S (n + k) l a w := by
  subst hk
  induction is generalizing l with
  | nil => simp only [skipAll, Option.some.injEq] at h; subst h; exact hQ
  | cons i is ih =>
    unfold skipAll at h
    split at h
    case isFalse => cases h
    case isTrue hone =>
      have h1 := ih h
      unfold skipOne at hone
      cases ho : ops[i]? with
      | none => rw [ho] at hone; simp at hone
      | some o =>
        rw [ho] at hone
        simp only [Bool.and_eq_true, Bool.not_eq_true'] at hone
        obtain ⟨⟨⟨g1, g2⟩, g3⟩, g4, g5⟩ := hone
        have hsame : a.put o.dst undef = a := by
          cases hd : o.dst with
          | none => rfl
          | some d =>
            rw [hd] at g5
            simp only at g5
            split at g5
            · rename_i x hh
              have hx : x = #[] := Array.eq_empty_of_size_eq_zero (by simpa using g5)
              subst hx
              exact put_same hh
            · cases g5
        refine held_at (d := o.dst) (v := undef) (by rw [ho]; rfl) g1 g2 g3 (fun c a w => hp c o.dst a w) (fun o' ho' => ?_) hS ?_
        · rw [ho] at ho'; cases ho'; exact Or.inr ⟨g4, rfl⟩
        · rw [hsame]; exact h1
end
end Go.Proofs.YtapkbonlijhmjaaGreatDoor
