/- Regions that draw their order: operations taken first under conditions on the world, operations that are skipped. -/
import Derived.Test.YtokananogogjaaaGreatDoorBase
import Derived.Deep.RegionHeld3
import Derived.BigQuiet
import Derived.Deep.QuietTactic
/- Operations taken first under a condition on the world that is asked only while something may still come up (beside the kit's law, in which the last store must keep it too). -/
namespace Go.Proofs.YtokananogogjaaaGreatDoor
section
variable {P : Program} {ops : Array Oper} {Q : Exit → Act → World → Prop} {md : Region.Mode} {S : World → Prop}
/-- Whatever order is picked from here on; S holds behind every operation but number z, which waits for all others. -/
def wpTill (P : Program) (md : Region.Mode) (ops : Array Oper) (Q : Exit → Act → World → Prop) (S : World → Prop) (z : Nat) : Nat → Array Bool → Act → World → Prop
 | 0, l, a, w => Region.ready md ops l = [] ∧ Q .normal a w
 | n + 1, l, a, w => (Region.ready md ops l = [] → Q .normal a w) ∧
  ∀ i, i ∈ Region.ready md ops l → wpOp P ops Q i (fun b v => (i ≠ z → S v) ∧ wpTill P md ops Q S z n (l.setIfInBounds i true) b v) a w
theorem wpAny_of_till {z : Nat} : ∀ (n : Nat) (l : Array Bool) (a : Act) (w : World), wpTill P md ops Q S z n l a w → wpAny P md ops Q n l a w
 | 0, _, _, _, h => h
 | n + 1, _, _, _, h => ⟨h.1, fun i hi => wpOp_mono (fun _ _ k => wpAny_of_till n _ _ _ k.2) (h.2 i hi)⟩
theorem till_first {z i : Nat} {o : Oper} {v : Value} (hz : ∀ x, ops[z]? = some x → ∃ e, e ∈ x.after ∧ Region.binds md e = true ∧ e.on = i) (hi : ops[i]? = some o) (hsel : ∀ (j : Nat) (x : Oper) cs b, ops[j]? = some x → x.op ≠ .select cs b)
  (hQ : ∀ c a w, Q (.panic c) (a.put o.dst v) w → Q (.panic c) a w) :
  ∀ (n : Nat) (l : Array Bool) (a : Act) (w : World),
   (∀ j x, ops[j]? = some x → j ≠ i → l.getD j true = false → (∀ e ∈ x.after, Region.binds md e = true → e.on ≠ i) → o.apart ops x = true) →
   i ∈ Region.ready md ops l → YieldsIf P ops S o v a → S w →
   wpTill P md ops Q S z n (l.setIfInBounds i true) (a.put o.dst v) w → wpTill P md ops Q S z (n + 1) l a w := by
 intro n
 induction n with
 | zero =>
  intro l a w _ hr hy hS k
  refine ⟨fun e => (by rw [e] at hr; cases hr), fun j hj => ?_⟩
  by_cases e : j = i
  ·subst e
   exact hy.wpOp hi hS ⟨fun _ => hS, k⟩
  ·have := ready_mono hj e
   rw [k.1] at this
   cases this
 | succ n ih =>
  intro l a w hf hr hy hS k
  refine ⟨fun e => (by rw [e] at hr; cases hr), fun j hj => ?_⟩
  by_cases e : j = i
  ·subst e
   exact hy.wpOp hi hS ⟨fun _ => hS, k⟩
  ·have k1 := k.2 j (ready_mono hj e)
   obtain ⟨hju, x, hx, hall⟩ := mem_ready.1 hj
   have hno : ∀ e ∈ x.after, Region.binds md e = true → e.on ≠ i := fun z hz hb h => by
    have g1 := hall z hz hb
    have g0 := (mem_ready.1 hr).1
    rw [h] at g1
    rcases Nat.lt_or_ge i l.size with q | q
    ·simp [q] at g0 g1; rw [g0] at g1; cases g1
    ·simp [Array.getElem?_eq_none q] at g1
   have k2 := wpOp_putIf hx (hf j x hx e hju hno) (fun cs b => hsel i o cs b hi) (fun cs b => hsel j x cs b hx) hQ hy k1
   have hr2 := ready_mono hr (Ne.symm e)
   refine wpOp_mono (fun b u k3 => ?_) k2
   have hjz : j ≠ z := fun h => by
    subst h
    obtain ⟨y, hy1, hy2, hy3⟩ := hz x hx
    exact hno y hy1 hy2 hy3
   have hSu := k3.2.1 hjz
   have hf2 : ∀ m x, ops[m]? = some x → m ≠ i → (l.setIfInBounds j true).getD m true = false → (∀ e ∈ x.after, Region.binds md e = true → e.on ≠ i) → o.apart ops x = true := fun m x hm hmi hun hn => by
    refine hf m x hm hmi ?_ hn
    by_cases q : j = m
    ·subst q; exact hju
    ·rw [getD_set_ne true q] at hun; exact hun
   refine ⟨fun _ => hSu, ih (l.setIfInBounds j true) b u hf2 hr2 k3.1 hSu ?_⟩
   rw [Array.setIfInBounds_comm _ _ e]
   exact k3.2.2
theorem till_take {z i : Nat} {o : Oper} {v : Value} {n : Nat} {l : Array Bool} {a : Act} {w : World} (hi : ops[i]? = some o) (hz : (ops[z]?.map fun x => x.after.toList.any fun e => Region.binds md e && e.on == i) = some true)
  (hs : Region.noSelect ops = true) (hf : Region.free md ops l i = true) (hr : (Region.ready md ops l).contains i = true)
  (hQ : ∀ c a w, Q (.panic c) (a.put o.dst v) w → Q (.panic c) a w) (hy : YieldsIf P ops S o v a) (hS : S w)
  (h : wpTill P md ops Q S z n (l.setIfInBounds i true) (a.put o.dst v) w) : wpTill P md ops Q S z (n + 1) l a w := by
 refine till_first (fun x hx => ?_) hi (Region.noSelect_spec hs) hQ n l a w (Region.free_spec hi hf) (by simpa using hr) hy hS h
 rw [hx] at hz
 simp only [Option.map_some, Option.some.injEq, List.any_eq_true, Bool.and_eq_true, beq_iff_eq] at hz
 obtain ⟨e, h1, h2, h3⟩ := hz
 exact ⟨e, by simpa using h1, h2, h3⟩
/-- Only number i may come up now. -/
theorem till_one {z i : Nat} {n : Nat} {l : Array Bool} {a : Act} {w : World} (hr : Region.ready md ops l = [i])
  (h : wpOp P ops Q i (fun b v => (i ≠ z → S v) ∧ wpTill P md ops Q S z n (l.setIfInBounds i true) b v) a w) : wpTill P md ops Q S z (n + 1) l a w :=
 ⟨fun e => (by rw [hr] at e; cases e), fun j hj => by
  rw [hr, List.mem_singleton] at hj
  subst hj
  exact h⟩
theorem till_done {z : Nat} {l : Array Bool} {a : Act} {w : World} (hr : Region.ready md ops l = []) (h : Q .normal a w) : ∀ n, wpTill P md ops Q S z n l a w
 | 0 => ⟨hr, h⟩
 | _ + 1 => ⟨fun _ => h, by rw [hr]; simp⟩
/-! ### Operations by number alone: what they are is asked only where they are looked at -/
theorem till_at {z i : Nat} {d : Option Tmp} {v : Value} {n : Nat} {l : Array Bool} {a : Act} {w : World} (hd : (ops[i]?).map (fun o => o.dst) = some d)
  (hz : (ops[z]?.map fun x => x.after.toList.any fun e => Region.binds md e && e.on == i) = some true)
  (hs : Region.noSelect ops = true) (hf : Region.free md ops l i = true) (hr : (Region.ready md ops l).contains i = true)
  (hQ : ∀ c a w, Q (.panic c) (a.put d v) w → Q (.panic c) a w) (hy : ∀ o, ops[i]? = some o → YieldsIf P ops S o v a) (hS : S w)
  (h : wpTill P md ops Q S z n (l.setIfInBounds i true) (a.put d v) w) : wpTill P md ops Q S z (n + 1) l a w := by
 cases ho : ops[i]? with
 | none => rw [ho] at hd; cases hd
 | some o =>
  rw [ho] at hd
  obtain rfl : o.dst = d := by simpa using hd
  exact till_take ho hz hs hf hr hQ (hy o ho) hS h
theorem till_step {z i : Nat} {n : Nat} {l : Array Bool} {a : Act} {w : World} (hr : Region.ready md ops l = [i]) (hi : (ops[i]?).isSome = true)
  (h : ∀ o, ops[i]? = some o → ∀ K' : Act → World → Prop, Shut (∀ b v, (i ≠ z → S v) → ((i ≠ z → S v) → wpTill P md ops Q S z n (l.setIfInBounds i true) b v) → K' b v) →
   if Region.wanted o (yielded ops a.tmps) = true then Oper.wp P o a w K' Q else K' (a.put o.dst undef) w) : wpTill P md ops Q S z (n + 1) l a w := by
 obtain ⟨o, ho⟩ := Option.isSome_iff_exists.1 hi
 exact till_one hr (wpOp_step ho (fun K' hK => h o ho K' (fun b v h1 h2 => hK b v ⟨h1, h2 h1⟩)))
theorem held_at {i : Nat} {d : Option Tmp} {v : Value} {n : Nat} {l : Array Bool} {a : Act} {w : World} (hd : (ops[i]?).map (fun o => o.dst) = some d)
  (hs : Region.noSelect ops = true) (hf : Region.free md ops l i = true) (hr : (Region.ready md ops l).contains i = true)
  (hQ : ∀ c a w, Q (.panic c) (a.put d v) w → Q (.panic c) a w) (hy : ∀ o, ops[i]? = some o → YieldsIf P ops S o v a) (hS : S w)
  (h : wpAnyH P md ops Q S n (l.setIfInBounds i true) (a.put d v) w) : wpAnyH P md ops Q S (n + 1) l a w := by
 cases ho : ops[i]? with
 | none => rw [ho] at hd; cases hd
 | some o =>
  rw [ho] at hd
  obtain rfl : o.dst = d := by simpa using hd
  exact wpAnyH_take ho hs hf hr hQ (hy o ho) hS h
theorem held_step {i : Nat} {n : Nat} {l : Array Bool} {a : Act} {w : World} {rs : List Nat} (hi : (ops[i]?).isSome = true)
  (h : ∀ o, ops[i]? = some o → ∀ K' : Act → World → Prop, Shut (∀ b v, S v → (S v → wpAnyH P md ops Q S n (l.setIfInBounds i true) b v) → K' b v) →
   if Region.wanted o (yielded ops a.tmps) = true then Oper.wp P o a w K' Q else K' (a.put o.dst undef) w) (hs : AllReadyH P md ops Q S n l a w rs) : AllReadyH P md ops Q S n l a w (i :: rs) := by
 obtain ⟨o, ho⟩ := Option.isSome_iff_exists.1 hi
 exact AllReadyH.cons ho (fun K' hK => h o ho K' hK) hs
end
end Go.Proofs.YtokananogogjaaaGreatDoor
/- Regions that draw their order, walked operation by operation: skipped operations in one step. -/
namespace Go.Proofs.YtokananogogjaaaGreatDoor
section
variable {P : Program} {ops : Array Oper} {Q : Exit → Act → World → Prop} {md : Region.Mode} {S : World → Prop}
theorem held_take {i : Nat} {d : Option Tmp} {v : Value} {n : Nat} {l : Array Bool} {a : Act} {w : World} (hd : (ops[i]?).map (fun o => o.dst) = some d)
  (hs : Region.noSelect ops = true) (hf : Region.free md ops l i = true) (hr : (Region.ready md ops l).contains i = true)
  (hQ : ∀ c a w, Q (.panic c) (a.put d v) w → Q (.panic c) a w) (hy : ∀ o, ops[i]? = some o → Region.wanted o (yielded ops a.tmps) = true ∧ ∀ w, S w → (execOp a.eval o).run P w = .ok (.value v) w) (hS : S w)
  (h : wpAnyH P md ops Q S n (l.setIfInBounds i true) (a.put d v) w) : wpAnyH P md ops Q S (n + 1) l a w :=
 held_at hd hs hf hr hQ (fun o ho => Or.inl (hy o ho)) hS h
theorem hTk {i : Nat} {d : Option Tmp} {v : Value} {n : Nat} {l : Array Bool} {a : Act} {w : World} (hy : ∀ o, ops[i]? = some o → Region.wanted o (yielded ops a.tmps) = true ∧ ∀ w, S w → (execOp a.eval o).run P w = .ok (.value v) w) (hS : S w)
  (h : wpAnyH P md ops Q S n (l.setIfInBounds i true) (a.put d v) w)
  (hd : (ops[i]?).map (fun o => o.dst) = some d := by kernel_rfl) (hs : Region.noSelect ops = true := by kernel_rfl) (hf : Region.free md ops l i = true := by kernel_rfl) (hr : (Region.ready md ops l).contains i = true := by kernel_rfl)
  (hQ : ∀ c a w, Q (.panic c) (a.put d v) w → Q (.panic c) a w := by exact fun _ _ _ h => h) : wpAnyH P md ops Q S (n + 1) l a w :=
 held_take hd hs hf hr hQ hy hS h
theorem held_skip {i : Nat} {d : Option Tmp} {n : Nat} {l : Array Bool} {a : Act} {w : World} (hd : (ops[i]?).map (fun o => o.dst) = some d)
  (hw : (ops[i]?).map (fun o => Region.wanted o (yielded ops a.tmps)) = some false)
  (hs : Region.noSelect ops = true) (hf : Region.free md ops l i = true) (hr : (Region.ready md ops l).contains i = true)
  (hQ : ∀ c a w, Q (.panic c) (a.put d undef) w → Q (.panic c) a w) (hS : S w)
  (h : wpAnyH P md ops Q S n (l.setIfInBounds i true) (a.put d undef) w) : wpAnyH P md ops Q S (n + 1) l a w :=
 held_at hd hs hf hr hQ (fun o ho => Or.inr ⟨by rw [ho] at hw; simpa using hw, rfl⟩) hS h
/-- Is this number one that may be skipped now, and does its temporary stand undefined? -/
def skipOne (md : Region.Mode) (ops : Array Oper) (tmps : Array Value) (l : Array Bool) (i : Nat) : Bool :=
 Region.noSelect ops && Region.free md ops l i && (Region.ready md ops l).contains i &&
 match ops[i]? with
 | none => false
 | some o => !Region.wanted o (yielded ops tmps) && match o.dst with
  | none => true
  | some d => match tmps[d]? with
   | some (.tuple x) => x.size == 0
   | _ => false
def skipAll (md : Region.Mode) (ops : Array Oper) (tmps : Array Value) : List Nat → Array Bool → Option (Array Bool)
 | [], l => some l
 | i :: is, l => if skipOne md ops tmps l i then skipAll md ops tmps is (l.setIfInBounds i true) else none
theorem put_same {a : Act} {d : Tmp} {v : Value} (h : a.tmps[d]? = some v) : a.put (some d) v = a := by
 cases a
 simp only [Act.put] at *
 congr 1
 apply Array.ext_getElem?
 intro j
 by_cases e : d = j
 ·subst e; rw [h]; simp [(Array.getElem?_eq_some_iff.1 h).1]
 ·rw [Array.getElem?_setIfInBounds_ne e]
theorem held_skips {is : List Nat} {k n : Nat} {l l' : Array Bool} {a : Act} {w : World} (h : skipAll md ops a.tmps is l = some l') (hk : is.length = k) (hS : S w)
  (hQ : wpAnyH P md ops Q S n l' a w) (hp : ∀ c (d : Option Tmp) a w, Q (.panic c) (a.put d undef) w → Q (.panic c) a w := by intro c d a w h; cases d <;> exact h) : wpAnyH P md ops Q S (n + k) l a w := by
 subst hk
 induction is generalizing l with
 | nil => simp only [skipAll, Option.some.injEq] at h; subst h; exact hQ
 | cons i is ih =>
  unfold skipAll at h
  split at h
  case isFalse => cases h
  case isTrue hone =>
   have h1 := ih h
   unfold skipOne at hone
   cases ho : ops[i]? with
   | none => rw [ho] at hone; simp at hone
   | some o =>
    rw [ho] at hone
    simp only [Bool.and_eq_true, Bool.not_eq_true'] at hone
    obtain ⟨⟨⟨g1, g2⟩, g3⟩, g4, g5⟩ := hone
    have hsame : a.put o.dst undef = a := by
     cases hd : o.dst with
     | none => rfl
     | some d =>
      rw [hd] at g5
      simp only at g5
      split at g5
      ·rename_i x hh
       have hx : x = #[] := Array.eq_empty_of_size_eq_zero (by simpa using g5)
       subst hx
       exact put_same hh
      ·cases g5
    refine held_at (d := o.dst) (v := undef) (by rw [ho]; rfl) g1 g2 g3 (fun c a w => hp c o.dst a w) (fun o' ho' => ?_) hS ?_
    ·rw [ho] at ho'; cases ho'; exact Or.inr ⟨g4, rfl⟩
    ·rw [hsame]; exact h1
end
end Go.Proofs.YtokananogogjaaaGreatDoor
/- Two conditions. -/
namespace Go.Proofs.YtokananogogjaaaGreatDoor
open Go.RowKit
section
variable {P : Program} {ops : Array Oper} {Q : Exit → Act → World → Prop} {md : Region.Mode} {S T : World → Prop} {zs : List Nat}
/-- A push of one element of one cell, wherever it lies. -/
theorem step_push_row {P : Program} {w : World} {t e bytes : Nat} {z : Value} (E : Elem P t e 1 bytes z) {ops : Array Oper} {o : Oper} {a : Act} {K : Act → World → Prop} {Q : Exit → Act → World → Prop} {E' : Prop} (hw : Region.wanted o (yielded ops a.tmps) = true) (s x : Operand)
  (hop : o.op = Op.call { callee := Callee.builtin Builtin.append, args := #[s, x], argTypes := #[t, t] }) (base : Nat) {v : Value} {k : Nat} {xs : List Value} (hs : a.eval s = v) (hown : w.ownsRow base e 1 v k xs)
  {u : Value} {m : Nat} (hx : a.eval x = .slice (some ⟨m, 0, none⟩) 1 1) (hc : w.cell? ⟨m, 0, none⟩ = some u) (h1 : u.oneCell' = true)
  (hK : ∀ g cap w', w'.ownsRow base e 1 (.slice (some ⟨g, 0, none⟩) (k + 1) cap) (k + 1) (xs ++ [u]) → w.grownBy w' v.ownBlock → (v.ownBlock = some g ∨ g = w.heap.size) → K (a.put o.dst (.slice (some ⟨g, 0, none⟩) (k + 1) cap)) w') (b1 : k + 1 ≤ maxLen) (b2 : (k + 1) * bytes ≤ 140737488355328) (b3 : base ≤ w.heap.size) :
  if Region.wanted o (yielded ops a.tmps) = true then Oper.wp P o a w K Q else E' := by
 rw [if_pos hw]
 obtain ⟨i, hi, hz, hsz, hb⟩ := E.info
 obtain ⟨v', w', hrun, ho, hgr, _, hloc⟩ := run_append_own_at (P := P) w base t o.type e i z 1 bytes E.slice hi hz hsz hb E.zero E.pos v k xs hown ⟨m, 0, none⟩ 1 1 [u] rfl (by
  intro j y hj
  cases j with
  | zero => cases hj; exact hc
  | succ j => cases hj) (by simpa using h1) b1 b2 b3
 obtain ⟨g, cap, rfl⟩ := owns_succ ho
 unfold Oper.wp
 simp [execOp, hop, resolve, invoke, builtin, hs, hx, hrun, Result.andThen]
 refine hK g cap w' ho hgr ?_
 rcases hloc with h | h
 ·exact .inl (h ▸ rfl)
 ·right; have : some g = some w.heap.size := h
  simpa using this
end
end Go.Proofs.YtokananogogjaaaGreatDoor

/- A region that only reads and calls. -/
namespace Go.Proofs.YtokananogogjaaaGreatDoor
open Go.RowKit
/-- A region whose operations read, and whose callees hand back worlds that follow: one walk serves every order. -/
theorem region_reads {P : Program} {id : Nat} {Q : Exit → Act → World → Prop} {a : Act} {w : World} {l : List Oper} {C : World → Prop} (hm : P.follows .mixedOrders = true) (hB : Region.lexB .any l.toArray = true) (hC : C w.drew)
  (h : wpQuiet P l.toArray C (fun a' => ∀ w', C w' → Q .normal a' w') l a) : (Code.region id l.toArray true).wp P Q a w :=
 wp_region_quiet (C := C) hm hB hC (by simpa using h)
end Go.Proofs.YtokananogogjaaaGreatDoor
